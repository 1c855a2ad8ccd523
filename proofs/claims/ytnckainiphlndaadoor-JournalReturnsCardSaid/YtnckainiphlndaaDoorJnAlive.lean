/- The chapter's examples hold. -/
import Derived.Test.YtnckainiphlndaaDoorJnWalksC
import Derived.Test.YtnckainiphlndaaDoorJnWalksE
namespace Go.Proofs.YtnckainiphlndaaDoor
set_option linter.unusedVariables false
set_option linter.unusedSimpArgs false
open Go.RowKit
attribute [local go_sem] bs_size bs_get bs_append bs_extract bs_toList
@[irreducible] def d1 : Nat := dgst 0 5 [97, 32, 98]
@[irreducible] def d2 : Nat := dgst d1 5 [99]
def e1 : Ent := ⟨5, [97, 32, 98], d1⟩
def e2 : Ent := ⟨5, [99], d2⟩
theorem itoa5 : Lib.itoa 5 = [53] := by
  rw [Lib.itoa, if_neg (by decide)]
  show Lib.decDigits 5 = _
  rw [Lib.decDigits, dif_pos (by decide)]
  rfl
theorem ex1 : appF [] 5 [97, 32, 98] = ([e1], 0) := by
  unfold appF
  rw [if_neg (by decide), if_neg (by decide), if_neg (by decide)]
  unfold e1 d1
  rfl
theorem ex2 : appF [e1] 4 [99] = ([], 7) := by
  unfold appF
  rw [if_neg (by decide), if_pos (by simp [lastT, lastD, e1])]
theorem ex3 : appF [e1] 5 [99] = ([e1, e2], 0) := by
  unfold appF
  rw [if_neg (by decide), if_neg (by simp [lastT, lastD, e1]), if_neg (by simp)]
  have h : sumF [e1] = d1 := by simp [sumF, lastS, e1]
  rw [h]
  unfold e2 d2
  rfl
theorem ex4 : verF [e1, e2] = -1 := appF_good ex3 (appF_good ex1 rfl)
theorem sum_e12 : sumF [e1, e2] = d2 := by
  unfold sumF lastS e2
  simp
theorem ex5 : d1 ≠ d2 := by
  unfold d2 d1 dgst
  rw [itoa5]
  decide +kernel
theorem ex5i : ((d1 : Int) != (d2 : Int)) = true := by
  have h := ex5
  generalize d1 = a at h ⊢
  generalize d2 = b at h ⊢
  simp
  omega
theorem appendC {j a : List Ent} {t x : Int} {s : List UInt8} (h : appF j t s = (a, x)) (A : Option Addr) (cap : Nat) (w : World) (E : Env w) (hr : RdS cE w (Lt w) A j) (hl : j.length ≤ maxLen) (hcap : j.length ≤ cap) (ht : I64n t) (hs : s.length ≤ maxLen) :
    Calls Tryd.prog 10 #[.slice A j.length cap, .int .i64 t, .string (bs s)] w (AppPost w (a, x)) := h ▸ append_any j A cap t s w E hr hl hcap ht hs
theorem rappendC {j a : List Ent} {t x : Int} {s : List UInt8} (h : appF j t s = (a, x)) (A : Option Addr) (cap : Nat) (w : World) (hr : RdS cE w (Lt w) A j) (hl : j.length ≤ maxLen) (ht : I64n t) (hs : s.length ≤ maxLen) :
    Calls Tryd.prog 11 #[.slice A j.length cap, .int .i64 t, .string (bs s)] w (AppPost w (a, x)) := h ▸ rappend_any j A cap t s w hr hl ht hs
theorem verifyC {j : List Ent} {n : Int} (h : verF j = n) (A : Option Addr) (cap : Nat) (w : World) (E : Env w) (hr : RdS cE w (Lt w) A j) (hl : j.length ≤ maxLen) (hcap : j.length ≤ cap) :
    Calls Tryd.prog 14 #[.slice A j.length cap] w fun e w' => e = .returned (.int .i64 n) ∧ Below w.heap.size w w' := h ▸ verify_any j A cap w E hr hl hcap
theorem rverifyC {j : List Ent} {n : Int} (h : verF j = n) (A : Option Addr) (cap : Nat) (w : World) (E : Env w) (hr : RdS cE w (Lt w) A j) (hl : j.length ≤ maxLen) (hcap : j.length ≤ cap) :
    Calls Tryd.prog 13 #[.slice A j.length cap] w fun e w' => e = .returned (.int .i64 n) ∧ Below w.heap.size w w' := h ▸ rverify_any j A cap w E hr hl hcap
theorem jsameC {a b : List Ent} {r : Bool} (h : decide (a = b) = r) (A B : Option Addr) (ca cb : Nat) (w : World) (ha : RdS cE w (Lt w) A a) (hb : RdS cE w (Lt w) B b) (la : a.length ≤ maxLen) (lb : b.length ≤ maxLen) :
    Calls Tryd.prog 12 #[.slice A a.length ca, .slice B b.length cb] w fun e w' => e = .returned (.bool r) ∧ Below w.heap.size w w' := h ▸ same_any a b A B ca cb w ha hb la lb
theorem fewC {l : List Ent} {r : Bool} (h : fewB l = r) (A : Option Addr) (cap : Nat) (w : World) (hr : RdS cE w (Lt w) A l) (hl : l.length ≤ maxLen) (hf : ∀ x ∈ l, x.text.length ≤ 140737488351232) :
    Calls Tryd.prog 8 #[.slice A l.length cap] w fun e w' => e = .returned (.bool r) ∧ Below w.heap.size w w' := h ▸ few_any l A cap w hr hl hf
/-- What the last test of the examples reads. -/
def AS (w0 : World) (A : Option Addr) (b off u1 u2 : Nat) (w' : World) : Prop := w'.cell? ⟨b, off + 1, none⟩ = some (.string (bs [97, 32, 98])) ∧ w'.cell? ⟨b, off + 2, none⟩ = some (.int .u64 (u1 : Int)) ∧ w'.cell? ⟨b, off + 5, none⟩ = some (.int .u64 (u2 : Int)) ∧ VI w0 A [e1, e2] b b w'
theorem AS.now {w0 w w' : World} {A : Option Addr} {b off u1 u2 : Nat} (h : AS w0 A b off u1 u2 w) (hb : Below w.heap.size w w') : AS w0 A b off u1 u2 w' := by
  obtain ⟨h1, h2, h3, h4⟩ := h
  have hg := h4.2.2.2.1
  exact ⟨(hb.cell (p := ⟨b, off + 1, none⟩) hg).trans h1, (hb.cell (p := ⟨b, off + 2, none⟩) hg).trans h2, (hb.cell (p := ⟨b, off + 5, none⟩) hg).trans h3, h4.now hb⟩
theorem as_drew {w0 w : World} {A : Option Addr} {b off u1 u2 : Nat} (h : AS w0 A b off u1 u2 w) : AS w0 A b off u1 u2 w.drew := h.now (Below.refl _ _).drew
theorem asi {w0 w : World} {A : Option Addr} {b off u1 u2 : Nat} (h : AS w0 A b off u1 u2 w) : VI w0 A [e1, e2] b b w := h.2.2.2
set_option maxRecDepth 100000 in
set_option maxHeartbeats 8000000 in
theorem jalive_any (w : World) (E : Env w) : Calls Tryd.prog 9 #[] w fun e w' => e = .returned (.bool true) ∧ Below w.heap.size w w' := by
  go_enter Tryd.func9, Tryd.ntmps9
  go_wp2_with fail
  refine (appendC (j := []) ex1 none 0 _ E (RdS.nil _ _ _ _) (by simp) (by simp) (by constructor <;> decide) (by unfold maxLen; simp)).mono ?_
  rintro e w1 ⟨A1, c1, rfl, hl1, hr1, hb1⟩
  go_wp2_with fail
  refine (appendC (j := [e1]) ex2 A1 c1 _ (E.now hb1) hr1 hl1.1 hl1.2 (by constructor <;> decide) (by unfold maxLen; simp)).mono ?_
  rintro e w2 ⟨A2, c2, rfl, _, _, hb2⟩
  have hr2 := hr1.now hb2
  have hB2 := bel_then hb1 hb1.size hb2
  clear hr1 hb1 hb2
  go_wp2_with fail
  refine (appendC (j := [e1]) ex3 A1 c1 _ (E.now hB2) hr2 hl1.1 hl1.2 (by constructor <;> decide) (by unfold maxLen; simp)).mono ?_
  rintro e w3 ⟨A3, c3, rfl, hl3, hr3, hb3⟩
  have hB3 := bel_then hB2 hB2.size hb3
  have E3 := E.now hB3
  clear hr2 hB2 hb3 hl1
  obtain ⟨b, off, rfl, hbl, _, _, x1, x2⟩ := ent_at hr3 (i := 0) (by simp)
  obtain ⟨b', off', hA', _, _, _, _, y2⟩ := ent_at hr3 (i := 1) (by simp)
  obtain ⟨rfl, rfl⟩ : b = b' ∧ off = off' := by simpa using hA'
  clear hA'
  rw [show off + 0 * 3 + 1 = off + 1 by omega] at x1
  rw [show off + 0 * 3 + 2 = off + 2 by omega] at x2
  rw [show off + 1 * 3 + 2 = off + 5 by omega] at y2
  have x1 : w3.cell? ⟨b, off + 1, none⟩ = some (.string (bs [97, 32, 98])) := x1
  have x2 : w3.cell? ⟨b, off + 2, none⟩ = some (.int .u64 (d1 : Int)) := x2
  have y2 : w3.cell? ⟨b, off + 5, none⟩ = some (.int .u64 (d2 : Int)) := y2
  have hS : w3.cell? ⟨b, off + 1, none⟩ = some (.string (bs [97, 32, 98])) ∧ w3.cell? ⟨b, off + 2, none⟩ = some (.int .u64 (d1 : Int)) ∧ w3.cell? ⟨b, off + 5, none⟩ = some (.int .u64 (d2 : Int)) ∧ VI w (some ⟨b, off, none⟩) [e1, e2] b b w3 := ⟨x1, x2, y2, hr3, hB3, E3, hbl, hbl⟩
  have hne := ex5i
  have hsm := sum_e12
  clear x1 x2 y2 hr3 hB3 E3
  generalize d1 = u1 at hS hne
  generalize d2 = u2 at hS hne hsm
  have hs2 : sumF ([e1, e2].take 2) = u2 := hsm
  have hc31 := hl3.1
  have hc32 := hl3.2
  go_wp2_with fail
  go_region_held3 (fun w' => w'.cell? ⟨b, off + 1, none⟩ = some (.string (bs [97, 32, 98])) ∧ w'.cell? ⟨b, off + 2, none⟩ = some (.int .u64 (u1 : Int)) ∧ w'.cell? ⟨b, off + 5, none⟩ = some (.int .u64 (u2 : Int)) ∧ VI w (some ⟨b, off, none⟩) [e1, e2] b b w') (first | assumption | exact as_drew ‹_› | (refine AS.now ‹_› ?_; assumption)) (first
    | (go_at_call 14; refine (verifyC (j := [e1, e2]) ex4 _ c3 _ (asi (by assumption)).2.2.1 (asi (by assumption)).1 hc31 hc32).mono ?_; rintro e wq ⟨rfl, hq⟩)
    | (go_at_call 18; refine (sumC (l := [e1, e2]) (k := 2) (by simp) hs2 _ c3 _ (asi (by assumption)).1 hc31).mono ?_; rintro e wq ⟨rfl, rfl⟩))
  all_goals (go_wp2_with fail)
  all_goals (go_ret; exact ⟨rfl, (asi (by assumption)).2.1⟩)
end Go.Proofs.YtnckainiphlndaaDoor
