/- The walks of Append and of its reference. -/
import Derived.Test.YtnckainiphlndaaDoorJnWalksA
import Derived.Deep.RegionLawGrows
namespace Go.Proofs.YtnckainiphlndaaDoor
set_option linter.unusedVariables false
set_option linter.unusedSimpArgs false
open Go.RowKit
attribute [local go_sem] bs_size bs_get bs_append bs_extract bs_toList
theorem infoE : (Tryd.prog.info? 37).map (fun i => (i.zero, i.size, i.bytes)) = some (some (.agg #[.int .i64 0, .string ByteArray.empty, .int .u64 0]), 3, 32) := by kernel_rfl
/-- The cells of entries, one behind the other. -/
def cellsE (l : List Ent) : List Value := l.flatMap entV
theorem entV_len (x : Ent) : (entV x).length = 3 := rfl
theorem cellsE_len : ∀ l : List Ent, (cellsE l).length = l.length * 3
  | [] => rfl
  | x :: r => by
    have := cellsE_len r
    unfold cellsE at this ⊢
    rw [List.flatMap_cons, List.length_append, this, entV_len, List.length_cons]
    omega
theorem cellsE_get : ∀ (l : List Ent) (m j : Nat) (x : Ent), l[m]? = some x → j < 3 → (cellsE l)[m * 3 + j]? = (entV x)[j]?
  | [], m, j, x, h, _ => by simp at h
  | y :: r, 0, j, x, h, hj => by
    simp at h
    subst h
    unfold cellsE
    rw [List.flatMap_cons, Nat.zero_mul, Nat.zero_add, List.getElem?_append_left (by rw [entV_len]; exact hj)]
  | y :: r, m + 1, j, x, h, hj => by
    have := cellsE_get r m j x (by simpa using h) hj
    unfold cellsE at this ⊢
    rw [List.flatMap_cons, List.getElem?_append_right (by rw [entV_len]; omega), entV_len, show (m + 1) * 3 + j - 3 = m * 3 + j by omega]
    exact this
theorem cellsE_append (a b : List Ent) : cellsE (a ++ b) = cellsE a ++ cellsE b := by unfold cellsE; rw [List.flatMap_append]
theorem cellsE_one (x : Ent) : cellsE [x] = entV x := by unfold cellsE; simp
theorem cellsE_cell (l : List Ent) : ∀ u ∈ cellsE l, u.oneCell' = true := by
  intro u hu
  unfold cellsE at hu
  rw [List.mem_flatMap] at hu
  obtain ⟨x, _, hx⟩ := hu
  simp only [entV, List.mem_cons, List.not_mem_nil, or_false] at hx
  rcases hx with rfl | rfl | rfl <;> rfl
theorem rdcE {w : World} {S : Nat → Prop} : ∀ {l : List Ent}, (∀ x ∈ l, entO x) → RdC cE w S (cellsE l) l
  | [], _ => rfl
  | x :: r, h => ⟨entV x, cellsE r, by unfold cellsE; rw [List.flatMap_cons], ⟨rfl, h x (by simp)⟩, rdcE fun y hy => h y (by simp [hy])⟩
/-- What a row of the call's own holds reads as its list. -/
theorem ownE {w : World} {base : Nat} {T : TypeId} {v : Value} {l : List Ent} (h : w.ownsRow base T 3 v l.length (cellsE l)) (ho : ∀ x ∈ l, entO x) : OwnR cE w base T v l 0 := ⟨_, h, rdcE ho, Nat.zero_le _⟩
/-- The cells behind an address. -/
theorem rds_cells {w : World} {S : Nat → Prop} {A : Option Addr} {l : List Ent} (h : RdS cE w S A l) {a : Addr} (hA : A = some a) : ∀ j u, (cellsE l)[j]? = some u → w.cell? (a.add j) = some u := by
  intro j u hu
  have hj := (List.getElem?_eq_some_iff.1 hu).1
  rw [cellsE_len] at hj
  have hm : j / 3 < l.length := by omega
  obtain ⟨b, off, ys, rfl, _, ⟨rfl, _⟩, hc⟩ := h.el hm
  obtain rfl := Option.some.inj hA
  have e := cellsE_get l (j / 3) (j % 3) l[j / 3] (List.getElem?_eq_getElem hm) (by omega)
  rw [show j / 3 * 3 + j % 3 = j by omega, hu] at e
  have := hc (j % 3) u e.symm
  rw [Addr.add_lit]
  have e2 : off + j / 3 * cE.size + j % 3 = off + j := by show off + j / 3 * 3 + j % 3 = _; omega
  rw [e2] at this
  exact this
/-- What Append gives. -/
def AppPost (w : World) (r : List Ent × Int) (e : Ending) (w' : World) : Prop := ∃ A cap, e = .returned (.tuple #[.slice A r.1.length cap, .int .i64 r.2]) ∧ (r.1.length ≤ maxLen ∧ r.1.length ≤ cap) ∧ RdS cE w' (Lt w') A r.1 ∧ Below w.heap.size w w'
theorem AppPost.none {w w' : World} {r : List Ent × Int} {c : Int} {e : Ending} (hr : r = ([], c)) (hb : Below w.heap.size w w') (he : e = .returned (.tuple #[.slice none 0 0, .int .i64 c])) : AppPost w r e w' := by
  subst hr
  exact ⟨Option.none, 0, he, by simp, RdS.nil _ _ _ _, hb⟩
theorem appF_bad {j : List Ent} {t : Int} {s : List UInt8} (h : tmB t = false ∨ legB s = false) : appF j t s = ([], 1) := by
  unfold appF
  rw [if_pos]
  rcases h with h | h <;> simp [h]
theorem appF_good' {j : List Ent} {t : Int} {s : List UInt8} (h1 : tmB t = true) (h2 : legB s = true) : appF j t s = if 0 < j.length ∧ t < lastT j then ([], 7) else if 512 ≤ j.length then ([], 16) else (j ++ [⟨t, s, dgst (sumF j) t s⟩], 0) := by
  unfold appF
  rw [if_neg (by simp [h1, h2])]
theorem timelyC {t : Int} {b : Bool} (h : tmB t = b) (w : World) (ht : I64n t) : Calls Tryd.prog 22 #[.int .i64 t] w fun e w' => e = .returned (.bool b) ∧ w = w' := h ▸ timely_any t w ht
theorem legibleC {l : List UInt8} {b : Bool} (h : legB l = b) (w : World) (hs : l.length ≤ maxLen) : Calls Tryd.prog 23 #[.string (bs l)] w fun e w' => e = .returned (.bool b) ∧ w = w' := h ▸ legible_any l w hs
theorem rtextC {l : List UInt8} {b : Bool} (h : legB l = b) (w : World) (hs : l.length ≤ maxLen) : Calls Tryd.prog 25 #[.string (bs l)] w fun e w' => e = .returned (.bool b) ∧ w = w' := h ▸ rtext_any l w hs
theorem entO_mk {t : Int} {s : List UInt8} {d : Nat} (ht : I64n t) (hs : s.length ≤ maxLen) (hd : d < 18446744073709551616) : entO ⟨t, s, d⟩ := ⟨ht, hs, hd⟩
theorem sumF_lt {l : List Ent} (h : ∀ x ∈ l, entO x) : sumF l < 18446744073709551616 := by
  by_cases h0 : 0 < l.length
  · rw [(sumF_last l h0).1]
    exact (h _ (List.getElem_mem _)).2.2
  · rw [(sumF_nil l h0).1]; omega
/-- One more entry behind a full row: a new row. -/
theorem step_append_new {P : Program} {ops : Array Oper} {o : Oper} {a : Act} {w : World} {K : Act → World → Prop} {Q : Exit → Act → World → Prop} {E : Prop}
    (hg : o.guard = none) (s x : Operand) (t : TypeId) (hop : o.op = Op.call { callee := Callee.builtin Builtin.append, args := #[s, x], argTypes := #[t, t] })
    (e : TypeId) (i : TypeInfo) (z : Value) (h1 : P.underlying t = some (.slice e)) (h2 : P.info? e = some i) (h3 : i.zero = some z) (h4 : i.size = 3) (h5 : i.bytes = 32) (h6 : z.cells.size = 3)
    (A : Option Addr) (n : Nat) (l : List Ent) (y : Ent) (hn : n = l.length) (hA : A = none → l = []) (hs : a.eval s = .slice A n n) (hr : RdS cE w (Lt w) A l) (ha : ∀ x ∈ l, entO x) (hy : entO y) (hl : l.length ≤ 512) (g : Nat)
    (hx : a.eval x = .slice (some ⟨g, 0, none⟩) 1 1) (hc : ∀ (j : Nat) (u : Value), (entV y)[j]? = some u → w.cell? ⟨g, j, none⟩ = some u)
    (hK : ∀ A' cap w', (l ++ [y]).length ≤ cap → RdS cE w' (Lt w') A' (l ++ [y]) → Below w.heap.size w w' → K (a.put o.dst (.slice A' (l ++ [y]).length cap)) w') :
    if Region.wanted o (yielded ops a.tmps) = true then Oper.wp P o a w K Q else E := by
  subst hn
  refine step_append_grows hg s x t hop e i z 3 32 h1 h2 h3 h4 h5 h6 (by decide) A l.length l.length (cellsE l) hs (fun h => by rw [hA h]; exact ⟨rfl, rfl⟩) (cellsE_len l) (fun b hb => rds_cells hr hb) ⟨g, 0, none⟩ 1 1 (entV y) hx rfl ?_ (fun u hu => cellsE_cell [y] u (by rw [cellsE_one]; exact hu)) (by omega) (by unfold maxLen; omega) (by omega) ?_
  · intro j u hj
    rw [Addr.add_lit, Nat.zero_add]
    exact hc j u hj
  · intro v' w' h hgr
    rw [← cellsE_one y, ← cellsE_append] at h
    have ho := ownE (l := l ++ [y]) (by rw [List.length_append]; exact h) (fun x hx => by
      rcases List.mem_append.1 hx with hx | hx
      · exact ha x hx
      · simp at hx; subst hx; exact hy)
    obtain ⟨A', cap, rfl, hcap, hrd⟩ := ho.reads2
    exact hK A' cap w' hcap.2 hrd ((Below.refl _ _).grown hgr (Nat.le_refl _) (fun k hk => by cases hk))
set_option maxRecDepth 100000 in
set_option maxHeartbeats 4000000 in
theorem append_any (l : List Ent) (A : Option Addr) (cap : Nat) (t : Int) (s : List UInt8) (w : World) (E : Env w) (hr : RdS cE w (Lt w) A l) (hl : l.length ≤ maxLen) (hcap : l.length ≤ cap) (ht : I64n t) (hs : s.length ≤ maxLen) :
    Calls Tryd.prog 10 #[.slice A l.length cap, .int .i64 t, .string (bs s)] w (AppPost w (appF l t s)) := by
  cases h1 : tmB t with
  | false =>
    have HF := Lib.hid (appF_bad (j := l) (s := s) (Or.inl h1))
    have H1 := Lib.hid h1
    clear h1
    go_enter Tryd.func10, Tryd.ntmps10
    go_wp2_with fail
    refine (timelyC H1.out _ ht).mono ?_
    rintro e w1 ⟨rfl, rfl⟩
    go_wp2_with fail
    go_ret2
    exact AppPost.none HF.out (Below.refl _ _) rfl
  | true =>
    have H1 := Lib.hid h1
    cases h2 : legB s with
    | false =>
      have HF := Lib.hid (appF_bad (j := l) (t := t) (Or.inr h2))
      have H2 := Lib.hid h2
      clear h1 h2
      go_enter Tryd.func10, Tryd.ntmps10
      go_wp2_with fail
      refine (timelyC H1.out _ ht).mono ?_
      rintro e w1 ⟨rfl, rfl⟩
      go_wp2_with fail
      refine (legibleC H2.out _ hs).mono ?_
      rintro e w1 ⟨rfl, rfl⟩
      go_wp2_with fail
      go_ret2
      exact AppPost.none HF.out (Below.refl _ _) rfl
    | true =>
      have H2 := Lib.hid h2
      have HG := Lib.hid (appF_good' (j := l) h1 h2)
      have hs2 : s.length ≤ 2000 := (legB_iff.1 h2).1.2
      clear h1 h2
      unfold maxLen at hl
      by_cases ho : 0 < l.length ∧ t < lastT l
      · have HF : Hid (appF l t s = ([], 7)) := Lib.hid (by rw [HG.out, if_pos ho])
        obtain ⟨h0, hlt⟩ := ho
        rw [(sumF_last l h0).2] at hlt
        obtain ⟨b, off, rfl, hb, hx, x0, x1, x2⟩ := ent_at hr (i := l.length - 1) (by omega)
        generalize l[l.length - 1] = x at hx x0 x1 x2 hlt
        obtain ⟨m, hm⟩ : ∃ m, l.length = m + 1 := ⟨l.length - 1, by omega⟩
        have e : l.length - 1 = m := by omega
        rw [e] at x0 x1 x2
        rw [hm] at hl ⊢
        clear e h0
        have hn : ((m + 1 : Nat) : Int) - 1 = (m : Int) := by omega
        go_enter Tryd.func10, Tryd.ntmps10
        go_wp2_with fail
        refine (timelyC H1.out _ ht).mono ?_
        rintro e w1 ⟨rfl, rfl⟩
        go_wp2_with fail
        refine (legibleC H2.out _ hs).mono ?_
        rintro e w1 ⟨rfl, rfl⟩
        go_wp2_with fail
        go_ret2
        exact AppPost.none HF.out (Below.refl _ _) rfl
      · have HO := Lib.hid ho
        by_cases hfull : 512 ≤ l.length
        · have HF : Hid (appF l t s = ([], 16)) := Lib.hid (by rw [HG.out, if_neg ho, if_pos hfull])
          have h0 : 0 < l.length := by omega
          have hlt : ¬ t < lastT l := fun h => ho ⟨h0, h⟩
          rw [(sumF_last l h0).2] at hlt
          obtain ⟨b, off, rfl, hb, hx, x0, x1, x2⟩ := ent_at hr (i := l.length - 1) (by omega)
          generalize l[l.length - 1] = x at hx x0 x1 x2 hlt
          obtain ⟨m, hm⟩ : ∃ m, l.length = m + 1 := ⟨l.length - 1, by omega⟩
          have e : l.length - 1 = m := by omega
          rw [e] at x0 x1 x2
          rw [hm] at hl hfull ⊢
          clear e h0 ho
          have hn : ((m + 1 : Nat) : Int) - 1 = (m : Int) := by omega
          go_enter Tryd.func10, Tryd.ntmps10
          go_wp2_with fail
          refine (timelyC H1.out _ ht).mono ?_
          rintro e w1 ⟨rfl, rfl⟩
          go_wp2_with fail
          refine (legibleC H2.out _ hs).mono ?_
          rintro e w1 ⟨rfl, rfl⟩
          go_wp2_with fail
          go_ret2
          exact AppPost.none HF.out (Below.refl _ _) rfl
        · have HF : Hid (appF l t s = (l ++ [⟨t, s, dgst (sumF l) t s⟩], 0)) := Lib.hid (by rw [HG.out, if_neg ho, if_neg hfull])
          obtain ⟨i0, hi, hz0, hz1, hz2⟩ := info_parts infoE
          have hsl := sumF_lt (ent_all hr)
          by_cases h0 : 0 < l.length
          · have hlt : ¬ t < lastT l := fun h => ho ⟨h0, h⟩
            rw [(sumF_last l h0).2] at hlt
            obtain ⟨b, off, hA, hb, hx, x0, x1, x2⟩ := ent_at hr (i := l.length - 1) (by omega)
            generalize l[l.length - 1] = x at hx x0 x1 x2 hlt
            obtain ⟨m, hm⟩ : ∃ m, l.length = m + 1 := ⟨l.length - 1, by omega⟩
            have e : l.length - 1 = m := by omega
            rw [e] at x0 x1 x2
            clear e ho
            have hn : ((m + 1 : Nat) : Int) - 1 = (m : Int) := by omega
            have hsum := sum_any l A cap w hr (by unfold maxLen; omega)
            generalize sumF l = sm at hsum HF hsl
            rw [hA, hm] at hsum ⊢
            have hdg := fun W (E : Env W) => digest_any sm t s W E hsl ht (by omega)
            have hd := dgst_lt sm t s
            generalize dgst sm t s = d at hdg HF hd
            go_enter Tryd.func10, Tryd.ntmps10
            go_wp2_with fail
            refine (timelyC H1.out _ ht).mono ?_
            rintro e w1 ⟨rfl, rfl⟩
            go_wp2_with fail
            refine (legibleC H2.out _ hs).mono ?_
            rintro e w1 ⟨rfl, rfl⟩
            go_wp2_with fail
            refine hsum.mono ?_
            rintro e w1 ⟨rfl, rfl⟩
            go_wp2_with fail
            refine (hdg _ E).mono ?_
            rintro e w2 ⟨rfl, hb2⟩
            go_wp2_with fail
            have hrw := (hr.now hb2).now ((Below.refl _ _).alloc (Nat.le_refl _) (.cells #[.int .i64 t, .string (bs s), .int .u64 (d : Int)] 37))
            rw [hA] at hrw
            have hsz2 := hb2.size
            have hc1 : (0 : Int) ≤ (m : Int) + 1 := by omega
            have hc2 : (m : Int) + 1 ≤ (cap : Int) := by omega
            have hB0 := hb2.alloc hb2.size (.cells #[.int .i64 t, .string (bs s), .int .u64 (d : Int)] 37)
            go_region_law (refine step_append_new rfl (.tmp 45) (.tmp 47) 22 rfl 37 i0 _ Tryd.underlying22 hi hz0 hz1 hz2 rfl (some ⟨b, off, none⟩) (m + 1) l ⟨t, s, d⟩ hm.symm (fun h => by cases h) rfl (hrw.now (by (repeat' (first | (with_reducible exact Below.refl _ _) | (with_reducible assumption) | (with_reducible refine Below.drewN ?_ _) | (with_reducible refine Below.drew ?_) | (with_reducible refine Below.alloc ?_ ?_ _) | (with_reducible refine Below.setCell ?_ ?_ _) | (with_reducible exact Nat.le_refl _) | (with_reducible exact Below.size (by assumption)) | omega | (simp only [World.size_alloc, World.size_setCell, World.size_drew]; omega) | (simp; done) | (simp; omega))))) (ent_all hr) (entO_mk ht hs hd) (by omega) _ rfl (fun j u hj => by first | (rw [World.cell?_alloc_at _ _ _ _ rfl]; simpa [entV] using hj) | (refine (World.cell?_alloc_at _ _ _ _ (by simp)).trans ?_; simpa [entV] using hj)) ?_; intro A' c' w' hc' hr' hb')
            all_goals go_wp2_with fail
            all_goals (
              go_ret2
              refine ⟨A', c', by rw [HF.out]; simp [Act.put, hm], ?_, by rw [HF.out]; exact hr', ?_⟩
              · rw [HF.out]; exact ⟨by simp; unfold maxLen; omega, hc'⟩
              · refine Below.trans ?_ (hb'.mono ?_) <;> (repeat' (first | (with_reducible exact Below.refl _ _) | (with_reducible assumption) | (with_reducible refine Below.drewN ?_ _) | (with_reducible refine Below.drew ?_) | (with_reducible refine Below.alloc ?_ ?_ _) | (with_reducible refine Below.setCell ?_ ?_ _) | (with_reducible exact Nat.le_refl _) | (with_reducible exact Below.size (by assumption)) | omega | (simp only [World.size_alloc, World.size_setCell, World.size_drew]; omega) | (simp; done) | (simp; omega))))
          · obtain rfl : l = [] := List.eq_nil_of_length_eq_zero (by omega)
            have hsum := sum_any [] A cap w hr (by unfold maxLen; simp)
            generalize sumF [] = sm at hsum HF hsl
            rw [List.length_nil] at hsum ⊢
            have hdg := fun W (E : Env W) => digest_any sm t s W E hsl ht (by omega)
            have hd := dgst_lt sm t s
            generalize dgst sm t s = d at hdg HF hd
            clear hr hl ho hfull HG HO h0
            rw [List.nil_append] at HF
            have hc2 : (0 : Int) ≤ (cap : Int) := by omega
            rcases A with _ | a
            all_goals
              go_enter Tryd.func10, Tryd.ntmps10
              go_wp2_with fail
              refine (timelyC H1.out _ ht).mono ?_
              rintro e w1 ⟨rfl, rfl⟩
              go_wp2_with fail
              refine (legibleC H2.out _ hs).mono ?_
              rintro e w1 ⟨rfl, rfl⟩
              go_wp2_with fail
              refine hsum.mono ?_
              rintro e w1 ⟨rfl, rfl⟩
              go_wp2_with fail
              refine (hdg _ E).mono ?_
              rintro e w2 ⟨rfl, hb2⟩
              go_wp2_with fail
              have hB0 := hb2.alloc hb2.size (.cells #[.int .i64 t, .string (bs s), .int .u64 (d : Int)] 37)
              have hsz2 := hb2.size
              go_region_law (refine step_append_new rfl (.tmp 45) (.tmp 47) 22 rfl 37 i0 _ Tryd.underlying22 hi hz0 hz1 hz2 rfl _ 0 [] ⟨t, s, d⟩ rfl (fun h => rfl) rfl (RdS.nil _ _ _ _) (fun x hx => by simp at hx) (entO_mk ht hs hd) (by simp) _ rfl (fun j u hj => by first | (rw [World.cell?_alloc_at _ _ _ _ rfl]; simpa [entV] using hj) | (refine (World.cell?_alloc_at _ _ _ _ (by simp)).trans ?_; simpa [entV] using hj)) ?_; intro A' c' w' hc' hr' hb')
              all_goals go_wp2_with fail
              all_goals (
                go_ret2
                refine ⟨A', c', by rw [HF.out]; simp [Act.put], ?_, by rw [HF.out]; exact hr', ?_⟩
                · rw [HF.out]; exact ⟨by unfold maxLen; simp, hc'⟩
                · refine Below.trans ?_ (hb'.mono ?_) <;> (repeat' (first | (with_reducible exact Below.refl _ _) | (with_reducible assumption) | (with_reducible refine Below.drewN ?_ _) | (with_reducible refine Below.drew ?_) | (with_reducible refine Below.alloc ?_ ?_ _) | (with_reducible refine Below.setCell ?_ ?_ _) | (with_reducible exact Nat.le_refl _) | (with_reducible exact Below.size (by assumption)) | omega | (simp only [World.size_alloc, World.size_setCell, World.size_drew]; omega) | (simp; done) | (simp; omega))))
end Go.Proofs.YtnckainiphlndaaDoor
