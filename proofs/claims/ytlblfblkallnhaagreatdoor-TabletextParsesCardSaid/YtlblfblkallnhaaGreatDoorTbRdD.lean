/- rankOf, reader.line. -/
import Derived.Test.YtlblfblkallnhaaGreatDoorTbRdC
namespace Go.Proofs.YtlblfblkallnhaaGreatDoor
set_option linter.unusedVariables false
set_option linter.unusedSimpArgs false
open Go.RowKit
attribute [local go_sem] bs_size bs_get bs_append bs_extract bs_toList
attribute [-go_sem] run_equalIn_agg
theorem stepT_no {t : Tab} {p : Int} {w : List UInt8} {a : List (List UInt8)} (h : follB p (rankF w) = false) : stepT t p (w :: a) = none := by unfold stepT; exact if_neg (show ¬ follB p (rankF w) = true by simp [h])
theorem stepT_go {t : Tab} {p k : Int} {w : List UInt8} {a : List (List UInt8)} (hk : rankF w = k) (h : follB p k = true) : stepT t p (w :: a) = takeT t k a := by subst hk; unfold stepT; exact if_pos h
theorem BoxS.cell {w : World} {g : Nat} (h : BoxS w g) : ∃ u, w.cell? ⟨g, 5, none⟩ = some u ∧ w.frozen? ⟨g, 5, none⟩ = false := by
  obtain ⟨cs, h1, h2⟩ := h
  exact ⟨cs[5], (h1.cell 5).trans (Array.getElem?_eq_getElem h2), h1.free 5⟩
theorem BoxS.set {w : World} {g : Nat} (h : BoxS w g) (j : Nat) (u : Value) : BoxS (w.setCell ⟨g, j, none⟩ u) g := by
  obtain ⟨cs, h1, h2⟩ := h
  exact ⟨_, h1.set j u, by simpa using h2⟩
/-- The rank is set. -/
theorem linePost_rank {g : Nat} {w w2 : World} {r s : Option Tab} {p q : Int} {e : Ending} (h1 : Below g w w2) (h2 : BoxS w2 g) (h3 : Hid (∀ t', r = some t' → RWS w2 g t' p)) (hs : s = r) (he : e = .returned (.bool r.isSome)) : LinePost g w s q e (w2.setCell ⟨g, 5, none⟩ (.int .i64 q)) := by
  subst hs
  refine ⟨he, h1.setCell (p := ⟨g, 5, none⟩) (Nat.le_refl g) _, h2.set 5 _, Lib.hid fun t' ht => ?_⟩
  obtain ⟨v1, v2, v3, h⟩ := h3.out t' ht
  exact ⟨v1, v2, v3, h.put5 q⟩
/-- The slice behind the first word. -/
def tlA (b off cap : Nat) : Option Addr := if cap = 1 then some ⟨b, off, none⟩ else some ⟨b, off + 1, none⟩
theorem tl_rd {w : World} {S : Nat → Prop} {b off cap : Nat} {x : List UInt8} {a : List (List UInt8)} (h : RdS cS w S (some ⟨b, off, none⟩) (x :: a)) (hc : a.length + 1 ≤ cap) : RdS cS w S (tlA b off cap) a := by
  unfold tlA
  split
  · have : a = [] := List.length_eq_zero_iff.1 (by omega)
    subst this
    exact RdS.nil _ _ _ _
  · exact h.rest
structure SmT (t : Tab) (n : Nat) : Prop where
  s1 : t.rts.length ≤ n
  s2 : t.pts.length ≤ n
  s3 : t.homes.length ≤ n
/-- Whether there are routes tells the rank of the last line. -/
structure RkT (t : Tab) (p : Int) : Prop where
  lo : p < 3 → t.rts = []
  hi : 3 ≤ p → t.rts ≠ []
theorem foll_cases {p k : Int} (h : follB p k = true) : (k = 1 ∧ p = 0) ∨ (k = 2 ∧ (p = 1 ∨ p = 2)) ∨ (k = 3 ∧ 1 ≤ p) ∨ (k ≠ 0 ∧ k ≠ 1 ∧ k ≠ 2 ∧ k ≠ 3 ∧ 3 ≤ p ∧ p < k) := by
  unfold follB at h
  split at h
  · cases h
  split at h
  · left; exact ⟨by assumption, by simpa using h⟩
  split at h
  · right; left; exact ⟨by assumption, by simpa using h⟩
  split at h
  · right; right; left; exact ⟨by assumption, by simpa using h⟩
  · right; right; right
    simp at h
    exact ⟨by assumption, by assumption, by assumption, by assumption, h⟩
theorem step_inv {t t' : Tab} {p : Int} {ln : List (List UInt8)} (h : stepT t p ln = some t') {n : Nat} (hs : SmT t n) (hr : RkT t p) : SmT t' (n + 1) ∧ RkT t' (rankF (ln.headD [])) := by
  unfold stepT at h
  split at h
  case isFalse => cases h
  rename_i hf
  generalize rankF (ln.headD []) = k at *
  generalize ln.tail = a at *
  obtain ⟨s1, s2, s3⟩ := hs
  rcases foll_cases hf with ⟨rfl, hp⟩ | ⟨rfl, hp⟩ | ⟨rfl, hp⟩ | ⟨k0, k1, k2, k3, hp, hpk⟩
  · have h0 := hr.lo (by omega)
    change headT t a = some t' at h
    unfold headT at h
    split at h
    · cases ho : optI a <;> rw [ho] at h <;> simp at h
      subst h
      exact ⟨⟨by simp only; omega, by simp only; omega, by simp only; omega⟩, ⟨fun _ => h0, by omega⟩⟩
    · cases h
  · have h0 := hr.lo (by omega)
    change pointT t a = some t' at h
    unfold pointT at h
    split at h
    · cases ho : optI a <;> rw [ho] at h <;> simp at h
      subst h
      exact ⟨⟨by simp only; omega, by simp; omega, by simp; omega⟩, ⟨fun _ => h0, by omega⟩⟩
    · cases h
  · change routeT t a = some t' at h
    unfold routeT at h
    split at h
    · cases ho : optI a.tail <;> rw [ho] at h <;> simp at h
      subst h
      exact ⟨⟨by simp; omega, by simp only; omega, by simp only; omega⟩, ⟨by omega, by simp⟩⟩
    · cases h
  · have h' : listT t k a = some t' := by
      unfold takeT at h
      rwa [if_neg k1, if_neg k2, if_neg k3] at h
    unfold listT at h'
    have hk3 : 3 ≤ k := by omega
    split at h'
    · cases h'
    · cases ho : listR (t.rts.getLastD zR) k a <;> rw [ho] at h' <;> simp at h'
      subst h'
      exact ⟨⟨by simp; omega, by simp only; omega, by simp only; omega⟩, ⟨by omega, by simp⟩⟩
set_option maxRecDepth 100000 in
set_option maxHeartbeats 8000000 in
theorem rankOf_any (s : List UInt8) (w : World) : Calls Tryz.prog 61 #[.string (bs s)] w fun e w' => e = .returned (.int .i64 (rankF s)) ∧ w = w' := by
  by_cases h1 : s = [116, 97, 98, 108, 101]
  · subst h1
    go_enter Tryz.func61, Tryz.ntmps61
    go_wp2_with fail
    go_ret
    exact ⟨rfl, rfl⟩
  have t1 : (s == [116, 97, 98, 108, 101]) = false := by simpa using h1
  by_cases h2 : s = [112, 111, 105, 110, 116]
  · subst h2
    clear t1
    go_enter Tryz.func61, Tryz.ntmps61
    go_wp2_with fail
    go_ret
    exact ⟨rfl, rfl⟩
  have t2 : (s == [112, 111, 105, 110, 116]) = false := by simpa using h2
  by_cases h3 : s = [114, 111, 117, 116, 101]
  · subst h3
    clear t1 t2
    go_enter Tryz.func61, Tryz.ntmps61
    go_wp2_with fail
    go_ret
    exact ⟨rfl, rfl⟩
  have t3 : (s == [114, 111, 117, 116, 101]) = false := by simpa using h3
  by_cases h4 : s = [112, 97, 116, 104]
  · subst h4
    clear t1 t2 t3
    go_enter Tryz.func61, Tryz.ntmps61
    go_wp2_with fail
    go_ret
    exact ⟨rfl, rfl⟩
  have t4 : (s == [112, 97, 116, 104]) = false := by simpa using h4
  by_cases h5 : s = [112, 111, 105, 110, 116, 115]
  · subst h5
    clear t1 t2 t3 t4
    go_enter Tryz.func61, Tryz.ntmps61
    go_wp2_with fail
    go_ret
    exact ⟨rfl, rfl⟩
  have t5 : (s == [112, 111, 105, 110, 116, 115]) = false := by simpa using h5
  by_cases h6 : s = [115, 101, 99, 116, 105, 111, 110, 115]
  · subst h6
    clear t1 t2 t3 t4 t5
    go_enter Tryz.func61, Tryz.ntmps61
    go_wp2_with fail
    go_ret
    exact ⟨rfl, rfl⟩
  have t6 : (s == [115, 101, 99, 116, 105, 111, 110, 115]) = false := by simpa using h6
  by_cases h7 : s = [111, 118, 101, 114]
  · subst h7
    clear t1 t2 t3 t4 t5 t6
    go_enter Tryz.func61, Tryz.ntmps61
    go_wp2_with fail
    go_ret
    exact ⟨rfl, rfl⟩
  have t7 : (s == [111, 118, 101, 114]) = false := by simpa using h7
  by_cases h8 : s = [111, 118, 101, 114, 112, 111, 105, 110, 116, 115]
  · subst h8
    clear t1 t2 t3 t4 t5 t6 t7
    go_enter Tryz.func61, Tryz.ntmps61
    go_wp2_with fail
    go_ret
    exact ⟨rfl, rfl⟩
  have t8 : (s == [111, 118, 101, 114, 112, 111, 105, 110, 116, 115]) = false := by simpa using h8
  by_cases h9 : s = [111, 118, 101, 114, 115, 101, 99, 116, 105, 111, 110, 115]
  · subst h9
    clear t1 t2 t3 t4 t5 t6 t7 t8
    go_enter Tryz.func61, Tryz.ntmps61
    go_wp2_with fail
    go_ret
    exact ⟨rfl, rfl⟩
  have t9 : (s == [111, 118, 101, 114, 115, 101, 99, 116, 105, 111, 110, 115]) = false := by simpa using h9
  by_cases h10 : s = [102, 108, 97, 110, 107]
  · subst h10
    clear t1 t2 t3 t4 t5 t6 t7 t8 t9
    go_enter Tryz.func61, Tryz.ntmps61
    go_wp2_with fail
    go_ret
    exact ⟨rfl, rfl⟩
  have t10 : (s == [102, 108, 97, 110, 107]) = false := by simpa using h10
  by_cases h11 : s = [103, 117, 97, 114, 100, 115]
  · subst h11
    clear t1 t2 t3 t4 t5 t6 t7 t8 t9 t10
    go_enter Tryz.func61, Tryz.ntmps61
    go_wp2_with fail
    go_ret
    exact ⟨rfl, rfl⟩
  have t11 : (s == [103, 117, 97, 114, 100, 115]) = false := by simpa using h11
  by_cases h12 : s = [103, 97, 112, 115]
  · subst h12
    clear t1 t2 t3 t4 t5 t6 t7 t8 t9 t10 t11
    go_enter Tryz.func61, Tryz.ntmps61
    go_wp2_with fail
    go_ret
    exact ⟨rfl, rfl⟩
  have t12 : (s == [103, 97, 112, 115]) = false := by simpa using h12
  have HX : Hid (rankF s = 0) := Lib.hid (by unfold rankF tableW pointW routeW pathW pointsW sectionsW overW overpointsW oversectionsW flankW guardsW gapsW; simp [h1, h2, h3, h4, h5, h6, h7, h8, h9, h10, h11, h12])
  clear h1 h2 h3 h4 h5 h6 h7 h8 h9 h10 h11 h12
  go_enter Tryz.func61, Tryz.ntmps61
  go_wp2_with fail
  go_ret
  exact ⟨ret_iL HX.out.symm, rfl⟩
theorem rankOfC {s : List UInt8} {k : Int} (h : rankF s = k) (w : World) : Calls Tryz.prog 61 #[.string (bs s)] w fun e w' => e = .returned (.int .i64 k) ∧ w = w' := h ▸ rankOf_any s w
theorem list_gen (w : World) (E : EnvR w) (g : Nat) (t : Tab) (p k : Int) (hk : 4 ≤ k ∧ k ≤ 12) (h : RWS w g t p) (hne : t.rts ≠ []) (hs : t.rts.length ≤ 40000) (a : List (List UInt8)) (A : Option Addr) (cap : Nat) (hr : RdS cS w (fun k => k < g) A a) (hl : a.length ≤ 40000) (hw : ∀ x ∈ a, wordB x = true) :
    Calls Tryz.prog 65 #[.pointer (some ⟨g, 0, none⟩), .int .i64 k, .slice A a.length cap] w (LinePost g w (listT t k a) p) := by
  by_cases ha : a = []
  · subst ha
    exact list_empty w g t p k h A cap
  have ht : t.rts = t.rts.dropLast ++ [t.rts.getLast hne] := (List.dropLast_concat_getLast hne).symm
  have hrs : t.rts.dropLast.length ≤ 40000 := by rw [List.length_dropLast]; omega
  have hc : k = 4 ∨ k = 5 ∨ k = 6 ∨ k = 7 ∨ k = 8 ∨ k = 9 ∨ k = 10 ∨ k = 11 ∨ k = 12 := by omega
  rcases hc with rfl | rfl | rfl | rfl | rfl | rfl | rfl | rfl | rfl
  · exact list_4 w E g t p h _ _ ht hrs a ha A cap hr hl hw
  · exact list_5 w E g t p h _ _ ht hrs a ha A cap hr hl hw
  · exact list_6 w E g t p h _ _ ht hrs a ha A cap hr hl hw
  · exact list_7 w E g t p h _ _ ht hrs a ha A cap hr hl hw
  · exact list_8 w E g t p h _ _ ht hrs a ha A cap hr hl hw
  · exact list_9 w E g t p h _ _ ht hrs a ha A cap hr hl hw
  · exact list_10 w E g t p h _ _ ht hrs a ha A cap hr hl hw
  · exact list_11 w E g t p h _ _ ht hrs a ha A cap hr hl hw
  · exact list_12 w E g t p h _ _ ht hrs a ha A cap hr hl hw
theorem takeT_hi {t : Tab} {k : Int} {a : List (List UInt8)} (k1 : ¬ k = 1) (k2 : ¬ k = 2) (k3 : ¬ k = 3) : takeT t k a = listT t k a := by unfold takeT; rw [if_neg k1, if_neg k2, if_neg k3]
theorem rank_le (s : List UInt8) : 0 ≤ rankF s ∧ rankF s ≤ 12 := by
  unfold rankF
  repeat' split
  all_goals omega
set_option maxRecDepth 100000 in
set_option maxHeartbeats 16000000 in
theorem line_go (w : World) (E : EnvR w) (g : Nat) (t : Tab) (p : Int) (h : RWS w g t p) (hk : RkT t p) (hs : SmT t 40000) (w0 : List UInt8) (a : List (List UInt8)) (b off cap : Nat) (hr : RdS cS w (fun k => k < g) (some ⟨b, off, none⟩) (w0 :: a)) (hcap : a.length + 1 ≤ cap) (hl : a.length ≤ 40000) (hw : ∀ x ∈ w0 :: a, wordB x = true) :
    Calls Tryz.prog 26 #[.pointer (some ⟨g, 0, none⟩), .slice (some ⟨b, off, none⟩) (a.length + 1) cap] w (LinePost g w (stepT t p (w0 :: a)) (rankF w0)) := by
  obtain ⟨k, hrk⟩ : ∃ k, rankF w0 = k := ⟨_, rfl⟩
  have hkb := rank_le w0
  rw [hrk] at hkb ⊢
  have HR := Lib.hid fun W => rankOfC hrk W
  have HG := Lib.hid fun (hf : follB p k = true) => stepT_go (t := t) (a := a) hrk hf
  have HN := Lib.hid fun (hf : follB p k = false) => stepT_no (t := t) (a := a) (w := w0) (p := p) (by rw [hrk]; exact hf)
  have hra := tl_rd hr hcap
  have hsl : ∀ W, (Instr.slice 46 (.slice (some ⟨b, off, none⟩) (a.length + 1) cap) (some (.int .i64 1)) none none).run Tryz.prog W = .ok (.slice (tlA b off cap) a.length (cap - 1)) W := fun W => slice1 b off a.length cap hcap W
  obtain ⟨b', off', hA, lb, hnl, y0⟩ := hr.elS (i := 0) (by simp)
  simp only [Option.some.injEq, Addr.mk.injEq, and_true] at hA
  obtain ⟨rfl, rfl⟩ := hA
  simp only [List.getElem_cons_zero, Nat.add_zero] at hnl y0
  have hwa : ∀ x ∈ a, wordB x = true := fun x hx => hw x (by simp [hx])
  have hwl : ∀ x ∈ a, x.length ≤ 40000 := fun x hx => (word_ok (hwa x hx)).1
  have hal : (a.length : Int) + 1 ≤ 50000 := by omega
  obtain ⟨v1, v2, v3, hrw⟩ := id h
  have x5 := hrw.x5
  have f5 := hrw.blk.free 5
  have HBX := Lib.hid hrw.boxS
  have HS := Lib.hid hs
  have HK := Lib.hid hk
  have HH := Lib.hid h
  have HWA := Lib.hid hwa
  have HWL := Lib.hid hwl
  have HRA := Lib.hid hra
  have HCP : Hid (a.length ≤ cap - 1) := Lib.hid (by omega)
  clear hrk hr hcap hw hwa hwl hrw hra h hs hk
  by_cases k0 : k = 0
  · subst k0
    have HX := Lib.hid (HN.out rfl)
    clear HN HG HH HWA HWL HRA HS HK
    go_enter Tryz.func26, Tryz.ntmps26
    go_wp2_with fail
    refine (HR.out _).mono ?_
    rintro e wq ⟨rfl, rfl⟩
    go_wp2_with fail
    go_ret
    exact linePost_no HX.out rfl (Below.refl _ _) HBX.out
  by_cases k1 : k = 1
  · subst k1
    by_cases hp : p = 0
    · subst hp
      have HX := Lib.hid ((HG.out (rfl)))
      have HC := Lib.hid (head_any w E g t 0 HH.out a (tlA b off cap) (cap - 1) HRA.out hl HWL.out)
      clear HN HG HH HWA HWL HRA HS HK 
      go_enter Tryz.func26, Tryz.ntmps26
      go_wp2_with fail
      refine (HR.out _).mono ?_
      rintro e wq ⟨rfl, rfl⟩
      go_wp2_with fail
      refine HC.out.mono ?_
      rintro e w2 ⟨rfl, hB, hbx, hH⟩
      obtain ⟨u5, z5, f6⟩ := hbx.cell
      have HBB := Lib.hid hB
      clear hB
      go_wp2_with fail
      go_ret
      exact linePost_rank HBB.out hbx hH HX.out rfl
    · have hpb : (p == 0) = false := by simpa using hp
      have HX := Lib.hid (HN.out (by simpa [follB] using hp))
      clear HN HG HH HWA HWL HRA HS HK hp
      go_enter Tryz.func26, Tryz.ntmps26
      go_wp2_with fail
      refine (HR.out _).mono ?_
      rintro e wq ⟨rfl, rfl⟩
      go_wp2_with fail
      go_ret
      exact linePost_no HX.out rfl ((Below.refl g w).setCell (p := ⟨g, 5, none⟩) (Nat.le_refl g) _) (HBX.out.set 5 _)
  by_cases k2 : k = 2
  · subst k2
    by_cases hp1 : p = 1
    · subst hp1
      have HX := Lib.hid ((HG.out (rfl)))
      have HC := Lib.hid (point_any w E g t 1 HH.out (HK.out.lo (by omega)) ⟨Nat.le_trans HS.out.s2 (by omega), Nat.le_trans HS.out.s3 (by omega)⟩ a (tlA b off cap) (cap - 1) HRA.out hl HWL.out)
      clear HN HG HH HWA HWL HRA HS HK 
      go_enter Tryz.func26, Tryz.ntmps26
      go_wp2_with fail
      refine (HR.out _).mono ?_
      rintro e wq ⟨rfl, rfl⟩
      go_wp2_with fail
      refine HC.out.mono ?_
      rintro e w2 ⟨rfl, hB, hbx, hH⟩
      obtain ⟨u5, z5, f6⟩ := hbx.cell
      have HBB := Lib.hid hB
      clear hB
      go_wp2_with fail
      go_ret
      exact linePost_rank HBB.out hbx hH HX.out rfl
    by_cases hp2 : p = 2
    · subst hp2
      have HX := Lib.hid ((HG.out (rfl)))
      have HC := Lib.hid (point_any w E g t 2 HH.out (HK.out.lo (by omega)) ⟨Nat.le_trans HS.out.s2 (by omega), Nat.le_trans HS.out.s3 (by omega)⟩ a (tlA b off cap) (cap - 1) HRA.out hl HWL.out)
      clear HN HG HH HWA HWL HRA HS HK hp1
      go_enter Tryz.func26, Tryz.ntmps26
      go_wp2_with fail
      refine (HR.out _).mono ?_
      rintro e wq ⟨rfl, rfl⟩
      go_wp2_with fail
      refine HC.out.mono ?_
      rintro e w2 ⟨rfl, hB, hbx, hH⟩
      obtain ⟨u5, z5, f6⟩ := hbx.cell
      have HBB := Lib.hid hB
      clear hB
      go_wp2_with fail
      go_ret
      exact linePost_rank HBB.out hbx hH HX.out rfl
    have hpb1 : (p == 1) = false := by simpa using hp1
    have hpb2 : (p == 2) = false := by simpa using hp2
    have HX := Lib.hid (HN.out (by simp [follB, hp1, hp2]))
    clear HN HG HH HWA HWL HRA HS HK hp1 hp2
    go_enter Tryz.func26, Tryz.ntmps26
    go_wp2_with fail
    refine (HR.out _).mono ?_
    rintro e wq ⟨rfl, rfl⟩
    go_wp2_with fail
    go_ret
    exact linePost_no HX.out rfl ((Below.refl g w).setCell (p := ⟨g, 5, none⟩) (Nat.le_refl g) _) (HBX.out.set 5 _)
  by_cases k3 : k = 3
  · subst k3
    by_cases hp : 1 ≤ p
    · have hpp := hp
      have HX := Lib.hid ((HG.out (by simpa [follB] using hp)))
      have HC := Lib.hid (route_any w E g t p HH.out (Nat.le_trans HS.out.s1 (by omega)) a (tlA b off cap) (cap - 1) HRA.out HCP.out hl HWL.out)
      clear HN HG HH HWA HWL HRA HS HK hp
      go_enter Tryz.func26, Tryz.ntmps26
      go_wp2_with fail
      refine (HR.out _).mono ?_
      rintro e wq ⟨rfl, rfl⟩
      go_wp2_with fail
      refine HC.out.mono ?_
      rintro e w2 ⟨rfl, hB, hbx, hH⟩
      obtain ⟨u5, z5, f6⟩ := hbx.cell
      have HBB := Lib.hid hB
      clear hB
      go_wp2_with fail
      go_ret
      exact linePost_rank HBB.out hbx hH HX.out rfl
    · have hpd : decide (1 ≤ p) = false := decide_eq_false hp
      have HX := Lib.hid (HN.out (by simpa [follB] using hp))
      clear HN HG HH HWA HWL HRA HS HK hp
      go_enter Tryz.func26, Tryz.ntmps26
      go_wp2_with fail
      refine (HR.out _).mono ?_
      rintro e wq ⟨rfl, rfl⟩
      go_wp2_with fail
      go_ret
      exact linePost_no HX.out rfl ((Below.refl g w).setCell (p := ⟨g, 5, none⟩) (Nat.le_refl g) _) (HBX.out.set 5 _)
  have e0 : (k == 0) = false := by simpa using k0
  have e1 : (k == 1) = false := by simpa using k1
  have e2 : (k == 2) = false := by simpa using k2
  have e3 : (k == 3) = false := by simpa using k3
  by_cases hp : 3 ≤ p
  · by_cases hq : p < k
    · have HX := Lib.hid ((HG.out (by simp [follB, k0, k1, k2, k3, hp, hq])).trans ((takeT_hi k1 k2 k3)))
      have HC := Lib.hid (list_gen w E g t p k (by omega) HH.out (HK.out.hi hp) HS.out.s1 a (tlA b off cap) (cap - 1) HRA.out hl HWA.out)
      clear HN HG HH HWA HWL HRA HS HK k0 k1 k2 k3
      go_enter Tryz.func26, Tryz.ntmps26
      go_wp2_with fail
      refine (HR.out _).mono ?_
      rintro e wq ⟨rfl, rfl⟩
      go_wp2_with fail
      refine HC.out.mono ?_
      rintro e w2 ⟨rfl, hB, hbx, hH⟩
      obtain ⟨u5, z5, f6⟩ := hbx.cell
      have HBB := Lib.hid hB
      clear hB
      go_wp2_with fail
      go_ret
      exact linePost_rank HBB.out hbx hH HX.out rfl
    · have hqd : decide (p < k) = false := decide_eq_false hq
      have HX := Lib.hid (HN.out (by simp [follB, k0, k1, k2, k3, hp, hq]))
      clear HN HG HH HWA HWL HRA HS HK k0 k1 k2 k3 hq
      go_enter Tryz.func26, Tryz.ntmps26
      go_wp2_with fail
      refine (HR.out _).mono ?_
      rintro e wq ⟨rfl, rfl⟩
      go_wp2_with fail
      go_ret
      exact linePost_no HX.out rfl ((Below.refl g w).setCell (p := ⟨g, 5, none⟩) (Nat.le_refl g) _) (HBX.out.set 5 _)
  · have hpd : decide (3 ≤ p) = false := decide_eq_false hp
    have HX := Lib.hid (HN.out (by simp [follB, k0, k1, k2, k3, hp]))
    clear HN HG HH HWA HWL HRA HS HK k0 k1 k2 k3 hp
    go_enter Tryz.func26, Tryz.ntmps26
    go_wp2_with fail
    refine (HR.out _).mono ?_
    rintro e wq ⟨rfl, rfl⟩
    go_wp2_with fail
    go_ret
    exact linePost_no HX.out rfl ((Below.refl g w).setCell (p := ⟨g, 5, none⟩) (Nat.le_refl g) _) (HBX.out.set 5 _)
end Go.Proofs.YtlblfblkallnhaaGreatDoor
