/- The reference's rank, follows, width, heads, values, path, places, gaps. -/
import Derived.Test.YtlblfblkallnhaaGreatDoorTbPL
import Derived.Test.YtlblfblkallnhaaGreatDoorTbChkE
import Derived.Test.YtlblfblkallnhaaGreatDoorTbLst
import Derived.Test.YtlblfblkallnhaaGreatDoorTbParB
import Derived.Test.YtlblfblkallnhaaGreatDoorTbRkA
namespace Go.Proofs.YtlblfblkallnhaaGreatDoor
set_option linter.unusedVariables false
set_option linter.unusedSimpArgs false
open Go.RowKit
attribute [local go_sem] bs_size bs_get bs_append bs_extract bs_toList
attribute [-go_sem] run_equalIn_agg
section
variable {P : Program} {α : Type} {c : Cod α}
/-- A whole slice appended to a row of one's own, the data looking at no block. -/
theorem wpList_append_flat (w : World) {ops : Array Oper} {rest : List Oper} {o : Oper} {a : Act} {Q : Exit → Act → World → Prop} (hfl : Flat c) (hgd : o.guard = none) (s x : Operand) (t : TypeId)
    (ho : o.op = .call { callee := .builtin .append, args := #[s, x], argTypes := #[t, t] })
    (base : Nat) (e : TypeId) (i : TypeInfo) (z : Value) (bytes : Nat) (ht : P.underlying t = some (.slice e)) (hi : P.info? e = some i) (hz : i.zero = some z) (hsize : i.size = c.size) (hby : i.bytes = bytes) (hzs : z.cells.size = c.size) (hc : 0 < c.size)
    (v : Value) (l : List α) (hs : a.eval s = v) (hown : OwnR c w base e v l 0) (A : Option Addr) (k : Nat) (l2 : List α) (hx : a.eval x = .slice A l2.length k) (hr : RdS c w (Lt w) A l2)
    (hone : ∀ (ys : List Value) (x : α), c.rd w (Lt w) ys x → ∀ u ∈ ys, u.oneCell' = true) (hlen : l.length + l2.length ≤ 100000) (hbl : bytes ≤ 1000) (hbase : base ≤ w.heap.size)
    (h : ∀ v' w', OwnR c w' base e v' (l ++ l2) 0 → Frm base e w w' → wpList P ops Q rest (a.put o.dst v') w') : wpList P ops Q (o :: rest) a w := by
  obtain ⟨xs, h1, h2, _⟩ := hown
  cases A with
  | none =>
    have hl2 : l2 = [] := by
      cases l2 with
      | nil => rfl
      | cons y r => obtain ⟨b, off, h3, _⟩ := hr (by simp); cases h3
    subst hl2
    refine wpList_plain hgd fun K hK => ?_
    have hrun := run_app_nil (P := P) w base t o.type e i c.size ht hi v l.length xs h1 k
    unfold Oper.wp execOp
    simp only [List.length_nil] at hx
    simp only [ho, resolve, invoke, builtin, Sem.run_bind, Sem.run_pure, Result.andThen_ok, List.map_toArray, List.map_cons, List.map_nil, hs, hx, hrun]
    exact hK _ _ (h v w (by rw [List.append_nil]; exact ⟨xs, h1, h2, Nat.zero_le _⟩) (Frm.refl _ _ _))
  | some ad =>
    obtain ⟨news, h3, h4⟩ : ∃ news, RdC c w (Lt w) news l2 ∧ ∀ (j : Nat) (u : Value), news[j]? = some u → w.cell? (ad.add j) = some u := by
      cases l2 with
      | nil => exact ⟨[], rfl, fun j u hu => by simp at hu⟩
      | cons y r =>
        obtain ⟨b, off, h5, _⟩ := hr (by simp)
        simp only [Option.some.injEq] at h5
        subst h5
        obtain ⟨news, h6, h7⟩ := hr.cells
        refine ⟨news, h6, fun j u hu => ?_⟩
        have : (⟨b, off, none⟩ : Addr).add j = ⟨b, off + j, none⟩ := by
          unfold Addr.add
          split
          · rename_i h0; subst h0; rfl
          · rfl
        rw [this]
        exact h7 j u hu
    refine wpList_append_own _ hgd s x t ho base e i z c.size bytes ht hi hz hsize hby hzs hc v l.length xs hs h1 ad l2.length k news hx h3.len h4 (h3.one hone)
      (by unfold maxLen; omega) (Nat.le_trans (Nat.mul_le_mul (show l.length + l2.length ≤ 1000000 by omega) hbl) (by omega)) hbase ?_
    intro v' w' h5 h6 _
    have hf := frm_of h1 h6
    refine h v' w' ⟨xs ++ news, by rw [List.length_append]; exact h5, ?_, Nat.zero_le _⟩ hf
    have key : RdC c w (Lt w) (xs ++ news) (l ++ l2) := (h2.flat hfl).app h3
    have key2 : RdC c w (fun _ => False) (xs ++ news) (l ++ l2) := key.flat hfl
    exact (key2.keep fun p hp => hp.elim).flat hfl
end
theorem rintE {s : List UInt8} {n x : Int} (h : intF s = (n, x)) (w : World) (hs : s.length ≤ maxLen) : Calls Tryz.prog 89 #[.string (bs s)] w fun e w' => e = .returned (.tuple #[.int .i64 n, .int .i64 x]) ∧ w = w' := by
  have := rint_any s w hs
  rw [h] at this
  exact this
theorem rlistE {s : List UInt8} {r : List Int × Int} (h : listF s = r) (w : World) (hs : s.length ≤ 90000) : Calls Tryz.prog 90 #[.string (bs s)] w (ListPost w r) := h ▸ rlist_any s w hs
theorem forms_at {k : Nat} (h : k < 12) : ∃ s, formsW[k]? = some s := ⟨_, List.getElem?_eq_getElem (show k < formsW.length from h)⟩
theorem rank_here {k : Nat} {x s : List UInt8} (hk : formsW[k]? = some x) (h : s ∉ formsW.take k) (hx : x = s) : rankF s - 1 = (k : Int) := by
  obtain ⟨h1, h2⟩ := List.getElem?_eq_some_iff.1 hk
  subst hx
  have := fstI_at (l := formsW) (k := k) h1 (by rw [h2]; exact h)
  rw [h2] at this
  rw [← rank_fst, this]
theorem rank_none {s : List UInt8} (h : s ∉ formsW) : rankF s - 1 = -1 := by
  have h1 := fstI_neg.2 h
  have h2 := fstI_ge formsW s
  rw [← rank_fst]
  omega
theorem take_noF {k : Nat} {x s : List UInt8} (hk : formsW[k]? = some x) (h : s ∉ formsW.take k) (hx : ¬ x = s) : s ∉ formsW.take (k + 1) := by
  obtain ⟨h1, h2⟩ := List.getElem?_eq_some_iff.1 hk
  exact take_noI h1 h (by rw [h2]; exact hx)
set_option maxRecDepth 100000 in
set_option maxHeartbeats 4000000 in
theorem rRank_any (s : List UInt8) (w : World) : Calls Tryz.prog 28 #[.string (bs s)] w fun e w' => e = .returned (.int .i64 (rankF s - 1)) ∧ Below w.heap.size w w' := by
  have hk1 : Blk (w.alloc (.cells #[.string { data := #[116, 97, 98, 108, 101] }, .string { data := #[112, 111, 105, 110, 116] }, .string { data := #[114, 111, 117, 116, 101] }, .string { data := #[112, 97, 116, 104] }, .string { data := #[112, 111, 105, 110, 116, 115] }, .string { data := #[115, 101, 99, 116, 105, 111, 110, 115] }, .string { data := #[111, 118, 101, 114] }, .string { data := #[111, 118, 101, 114, 112, 111, 105, 110, 116, 115] }, .string { data := #[111, 118, 101, 114, 115, 101, 99, 116, 105, 111, 110, 115] }, .string { data := #[102, 108, 97, 110, 107] }, .string { data := #[103, 117, 97, 114, 100, 115] }, .string { data := #[103, 97, 112, 115] }] 9)) w.heap.size 9 (formsW.map fun x => Value.string (bs x)).toArray := Blk.new _ _ _ _ rfl
  have hB : Below w.heap.size w (w.alloc (.cells #[.string { data := #[116, 97, 98, 108, 101] }, .string { data := #[112, 111, 105, 110, 116] }, .string { data := #[114, 111, 117, 116, 101] }, .string { data := #[112, 97, 116, 104] }, .string { data := #[112, 111, 105, 110, 116, 115] }, .string { data := #[115, 101, 99, 116, 105, 111, 110, 115] }, .string { data := #[111, 118, 101, 114] }, .string { data := #[111, 118, 101, 114, 112, 111, 105, 110, 116, 115] }, .string { data := #[111, 118, 101, 114, 115, 101, 99, 116, 105, 111, 110, 115] }, .string { data := #[102, 108, 97, 110, 107] }, .string { data := #[103, 117, 97, 114, 100, 115] }, .string { data := #[103, 97, 112, 115] }] 9)) := (Below.refl _ _).alloc (Nat.le_refl _) _
  go_enter Tryz.func28, Tryz.ntmps28
  go_wp2_with fail
  generalize w.alloc (.cells #[.string { data := #[116, 97, 98, 108, 101] }, .string { data := #[112, 111, 105, 110, 116] }, .string { data := #[114, 111, 117, 116, 101] }, .string { data := #[112, 97, 116, 104] }, .string { data := #[112, 111, 105, 110, 116, 115] }, .string { data := #[115, 101, 99, 116, 105, 111, 110, 115] }, .string { data := #[111, 118, 101, 114] }, .string { data := #[111, 118, 101, 114, 112, 111, 105, 110, 116, 115] }, .string { data := #[111, 118, 101, 114, 115, 101, 99, 116, 105, 111, 110, 115] }, .string { data := #[102, 108, 97, 110, 107] }, .string { data := #[103, 117, 97, 114, 100, 115] }, .string { data := #[103, 97, 112, 115] }] 9) = W9 at *
  go_loop [4] (fun i => ∃ k : Nat, k ≤ 12 ∧ i = .int .i64 k ∧ Hid (s ∉ formsW.take k)) (fun i => 12 - (intOf i).toNat)
  case atStart => exact ⟨0, Nat.zero_le _, rfl, Lib.hid (by simp)⟩
  case round =>
    obtain ⟨k, hk, rfl, HK⟩ := hrel
    by_cases hlt : k < 12
    · have hki : (k : Int) < 12 := by omega
      obtain ⟨x, hx⟩ := forms_at hlt
      have y0 : W9.cell? ⟨w.heap.size, k, none⟩ = some (.string (bs x)) := by rw [hk1.cell]; simp [hx]
      by_cases hxs : x = s
      · have HX := Lib.hid (rank_here hx HK.out hxs)
        have t1 : (x == s) = true := by simpa using hxs
        clear hxs hx HK hk1
        go_wp2_with fail
        go_ret
        exact ⟨ret_iL HX.out.symm, hB⟩
      · have HN := Lib.hid (take_noF hx HK.out hxs)
        have t1 : (x == s) = false := by simpa using hxs
        clear hxs hx HK hk1
        go_wp2_with fail
        go_round
        case rel => exact ⟨k + 1, by omega, by go_num, HN⟩
        case measure => simp [intOf]; omega
    · have HX := Lib.hid (rank_none (s := s) (by have h1 := HK.out; rwa [List.take_of_length_le (by show 12 ≤ k; omega)] at h1))
      go_wp2_with fail
      go_ret
      exact ⟨ret_iL HX.out.symm, hB⟩
theorem rRankC {s : List UInt8} {k : Int} (h : rankF s = k) (w : World) : Calls Tryz.prog 28 #[.string (bs s)] w fun e w' => e = .returned (.int .i64 (k - 1)) ∧ Below w.heap.size w w' := h ▸ rRank_any s w
set_option maxRecDepth 100000 in
set_option maxHeartbeats 4000000 in
theorem rFollows_any (b k : Int) (w : World) : Calls Tryz.prog 29 #[.int .i64 b, .int .i64 k] w fun e w' => e = .returned (.bool (rfoll b k)) ∧ w = w' := by
  by_cases h : b < 2
  · have hd : decide (b < 2) = true := decide_eq_true h
    by_cases c1 : k = 1
    · subst c1
      have HX : Hid (rfoll b 1 = true) := Lib.hid (by unfold rfoll; rw [if_pos h]; rfl)
      clear h
      go_enter Tryz.func29, Tryz.ntmps29
      go_wp2_with fail
      go_ret
      exact ⟨ret_b HX.out.symm, rfl⟩
    · have t1 : (k == 1) = false := by simpa using c1
      obtain ⟨c, hc⟩ : ∃ c, (k == 2) = c := ⟨_, rfl⟩
      have HX : Hid (rfoll b k = c) := Lib.hid (by unfold rfoll; rw [if_pos h, decide_eq_false c1, ← hc, Bool.false_or]; rfl)
      clear h c1
      go_enter Tryz.func29, Tryz.ntmps29
      go_wp2_with fail
      go_ret
      exact ⟨ret_b HX.out.symm, rfl⟩
  · have hd : decide (b < 2) = false := decide_eq_false h
    by_cases c1 : k = 2
    · subst c1
      have HX : Hid (rfoll b 2 = true) := Lib.hid (by unfold rfoll; rw [if_neg h]; rfl)
      clear h
      go_enter Tryz.func29, Tryz.ntmps29
      go_wp2_with fail
      go_ret
      exact ⟨ret_b HX.out.symm, rfl⟩
    · have t1 : (k == 2) = false := by simpa using c1
      obtain ⟨c, hc⟩ : ∃ c, decide (b < k) = c := ⟨_, rfl⟩
      have HX : Hid (rfoll b k = c) := Lib.hid (by unfold rfoll; rw [if_neg h, decide_eq_false c1, hc, Bool.false_or])
      clear h c1
      go_enter Tryz.func29, Tryz.ntmps29
      go_wp2_with fail
      go_ret
      exact ⟨ret_b HX.out.symm, rfl⟩
theorem rFollowsC {b k : Int} {c : Bool} (h : rfoll b k = c) (w : World) : Calls Tryz.prog 29 #[.int .i64 b, .int .i64 k] w fun e w' => e = .returned (.bool c) ∧ w = w' := h ▸ rFollows_any b k w
set_option maxRecDepth 100000 in
set_option maxHeartbeats 4000000 in
theorem rWidth_any (s : List UInt8) (w : World) : Calls Tryz.prog 91 #[.string (bs s)] w fun e w' => e = .returned (.int .i64 (widthF s : Nat)) ∧ w = w' := by
  by_cases h0 : s = [112, 97, 116, 104]
  · subst h0
    skip
    go_enter Tryz.func91, Tryz.ntmps91
    go_wp2_with fail
    go_ret
    exact ⟨rfl, rfl⟩
  have t0 : (s == [112, 97, 116, 104]) = false := by simpa using h0
  by_cases h1 : s = [111, 118, 101, 114]
  · subst h1
    clear t0
    go_enter Tryz.func91, Tryz.ntmps91
    go_wp2_with fail
    go_ret
    exact ⟨rfl, rfl⟩
  have t1 : (s == [111, 118, 101, 114]) = false := by simpa using h1
  by_cases h2 : s = [115, 101, 99, 116, 105, 111, 110, 115]
  · subst h2
    clear t0 t1
    go_enter Tryz.func91, Tryz.ntmps91
    go_wp2_with fail
    go_ret
    exact ⟨rfl, rfl⟩
  have t2 : (s == [115, 101, 99, 116, 105, 111, 110, 115]) = false := by simpa using h2
  by_cases h3 : s = [111, 118, 101, 114, 115, 101, 99, 116, 105, 111, 110, 115]
  · subst h3
    clear t0 t1 t2
    go_enter Tryz.func91, Tryz.ntmps91
    go_wp2_with fail
    go_ret
    exact ⟨rfl, rfl⟩
  have t3 : (s == [111, 118, 101, 114, 115, 101, 99, 116, 105, 111, 110, 115]) = false := by simpa using h3
  by_cases h4 : s = [103, 117, 97, 114, 100, 115]
  · subst h4
    clear t0 t1 t2 t3
    go_enter Tryz.func91, Tryz.ntmps91
    go_wp2_with fail
    go_ret
    exact ⟨rfl, rfl⟩
  have t4 : (s == [103, 117, 97, 114, 100, 115]) = false := by simpa using h4
  have HX : Hid (widthF s = 2) := Lib.hid (by unfold widthF; rw [if_neg (show ¬ s = pathW from h0), if_neg (show ¬ s = overW from h1), if_neg (show ¬ s = sectionsW from h2), if_neg (show ¬ s = oversectionsW from h3), if_neg (show ¬ s = guardsW from h4)])
  clear h0 h1 h2 h3 h4
  go_enter Tryz.func91, Tryz.ntmps91
  go_wp2_with fail
  go_ret
  exact ⟨by rw [HX.out]; rfl, rfl⟩
theorem rWidthC {s : List UInt8} {n : Nat} (h : widthF s = n) (w : World) : Calls Tryz.prog 91 #[.string (bs s)] w fun e w' => e = .returned (.int .i64 (n : Int)) ∧ w = w' := h ▸ rWidth_any s w
theorem dropF_at {l : List (List UInt8)} {f k i : Nat} (h : i = f + k) (hi : i < l.length) : l[i] = (l.drop f)[k]'(by rw [List.length_drop]; omega) := by subst h; simp
set_option maxRecDepth 100000 in
set_option maxHeartbeats 4000000 in
theorem rHeads_any (l : List (List UInt8)) (f n : Nat) (hf : f ≤ 10) (hn : n ≤ 10) (A : Option Addr) (cap : Nat) (w : World) (hr : RdS cS w (Lt w) A l) (hl : l.length ≤ 40000) (hw : ∀ x ∈ l, x.length ≤ 40000) :
    Calls Tryz.prog 66 #[.slice A l.length cap, .int .i64 f, .int .i64 n] w (OptR cI 3 w (headsW l f n)) := by
  obtain ⟨i0, hi, hz0, hz1, hz2⟩ := info_parts infoInt
  have hwf : IntKind.i64.wrap ((f : Int) + (n : Int)) = (f : Int) + (n : Int) := IntWalk.i64_in _ (by omega)
  by_cases h0 : l.length = f + n
  case neg =>
    have HX : Hid (headsW l f n = none) := Lib.hid (by unfold headsW; rw [if_neg h0])
    have t1 : ((l.length : Int) != (f : Int) + (n : Int)) = true := by simp; omega
    clear h0
    go_enter Tryz.func66, Tryz.ntmps66
    go_wp2_with fail
    go_ret2
    exact optR_none HX.out rfl (Below.refl _ _)
  have t1 : ((l.length : Int) != (f : Int) + (n : Int)) = false := by simp; omega
  have HX : Hid (headsW l f n = optI (l.drop f)) := Lib.hid (by unfold headsW; rw [if_pos h0])
  have HW := Lib.hid hw
  have hdl : (l.drop f).length = n := by rw [List.length_drop]; omega
  have H0 := Lib.hid h0
  clear hw h0
  go_enter Tryz.func66, Tryz.ntmps66
  go_wp2_with fail
  clear t1 hwf
  go_loopw [8, 9] (fun v x wr => ∃ k i : Nat, k ≤ n ∧ x = .int .i64 i ∧ Hid (i = f + k) ∧ OwnR cI wr w.heap.size 3 v (valsI (l.drop f) k) 0 ∧ Below w.heap.size w wr ∧ Hid (((l.drop f).take k).all okI = true)) (fun _ x _ => l.length - (intOf x).toNat)
  case atStart => exact ⟨0, f, Nat.zero_le _, rfl, Lib.hid rfl, OwnR.nil _ _ _ _ (Nat.zero_le _), Below.refl _ _, Lib.hid (by simp)⟩
  case round =>
    obtain ⟨k, i, hk, rfl, HI, hown, hb, HK⟩ := hrel
    have hsz := hb.size
    by_cases hlt : i < l.length
    · have hki : (i : Int) < (l.length : Int) := by omega
      have hkl : k < (l.drop f).length := by have := HI.out; have := H0.out; omega
      obtain ⟨b, off, hA, lb, hsl, y0⟩ := (hr.now hb).elS hlt
      have hpl := HW.out _ (List.getElem_mem hlt)
      have hq := dropF_at HI.out hlt
      rw [hq] at y0 hpl
      obtain ⟨⟨m, x⟩, hx⟩ : ∃ r, intF (l.drop f)[k] = r := ⟨_, rfl⟩
      have hi6 := intP_i64 (l.drop f)[k]
      rw [hx] at hi6
      have HN := Lib.hid hi6
      have HC := Lib.hid fun W => rintE hx W (by unfold maxLen; omega)
      have hkv := valsI_len (l.drop f) k
      have HI2 : Hid (i + 1 = f + (k + 1)) := Lib.hid (by rw [HI.out]; omega)
      rw [hA]
      clear hA hi6 hsl hq
      by_cases h0 : x = 0
      · subst h0
        have HT := Lib.hid (valsI_step hkl hx)
        have HO := Lib.hid (okI_step hkl hx HK.out)
        have hkn : k + 1 ≤ n := by omega
        clear hx HK
        generalize (l.drop f)[k] = q at *
        generalize valsI (l.drop f) k = ns at *
        go_wp2_with fail
        refine (HC.out _).mono ?_
        rintro e w2 ⟨rfl, rfl⟩
        go_wp2_with (at_builtin; go_loud (refine wpList_append_r (c := cI) _ rfl _ _ 23 rfl w.heap.size 3 i0 (.int .i64 0) 8 Tryz.underlying23 hi hz0 hz1 hz2 rfl (by decide) _ ns 0 rfl hown [.int .i64 m] m ⟨rfl, HN.out⟩ (by intro u hu; simp at hu; subst hu; rfl) _ rfl (by omega) (by omega) (by omega) ?_); intro v' w3 hown3 hf3 hs3)
        go_roundw
        case rel => exact ⟨k + 1, i + 1, hkn, by go_num, HI2, by rw [HT.out]; exact hown3, hf3.keeps (Nat.le_refl _) hsz hb, HO⟩
        case measure => simp [intOf]; omega
      · have HX2 := Lib.hid (optI_no hkl hx h0)
        have hxb : (x != 0) = true := by simpa using h0
        clear hx HK h0
        generalize (l.drop f)[k] = q at *
        go_wp2_with fail
        refine (HC.out _).mono ?_
        rintro e w2 ⟨rfl, rfl⟩
        go_wp2_with fail
        go_ret2
        exact optR_none (HX.out.trans HX2.out) rfl hb
    · have HE := Lib.hid (optI_end (l := l.drop f) (k := k) (by have := HI.out; have := H0.out; omega) HK.out)
      generalize valsI (l.drop f) k = ns at *
      obtain ⟨A', c', rfl⟩ := hown.form
      have HO := Lib.hid hown
      clear hown HK
      go_wp2_with fail
      go_ret2
      exact optR_some (HX.out.trans HE.out) rfl HO.out hb
def vals1 (a : List (List UInt8)) (k : Nat) : List Int := ((a.take k).map fun x => (listF x).1).flatten
theorem vals1_step {a : List (List UInt8)} {k : Nat} (h : k < a.length) {ns : List Int} {x : Int} (hx : listF a[k] = (ns, x)) : vals1 a (k + 1) = vals1 a k ++ ns := by unfold vals1; rw [map_take _ h, hx]; simp
theorem vals1_len {a : List (List UInt8)} {n : Nat} : ∀ {k : Nat}, k ≤ a.length → (a.take k).all (partB n) = true → (vals1 a k).length = k * n := fun {k} hk h => by
  unfold vals1
  rw [flat_len3 (n := n) (fun x hx => by
    obtain ⟨y, hy, rfl⟩ := List.mem_map.1 hx
    exact part_len (List.all_eq_true.1 h y hy))]
  rw [List.length_map, List.length_take, Nat.min_eq_left hk]
theorem width_le (s : List UInt8) : 1 ≤ widthF s ∧ widthF s ≤ 3 := by unfold widthF; (repeat' split) <;> decide
theorem valsW_no {w : List UInt8} {a : List (List UInt8)} {k : Nat} (h : k < a.length) (hp : partB (widthF w) a[k] = false) : valsW w a = none := by
  unfold valsW optP
  split
  · rfl
  · rw [if_neg (by rw [Bool.not_eq_true]; exact all_no2 h hp)]; rfl
theorem valsW_end {w : List UInt8} {a : List (List UInt8)} {k : Nat} (h : ¬ k < a.length) (h2 : (a.take k).all (partB (widthF w)) = true) (ha : a ≠ []) : valsW w a = some (vals1 a k) := by
  unfold valsW optP vals1
  rw [List.take_of_length_le (by omega)] at h2 ⊢
  rw [if_neg ha, if_pos h2]; rfl
theorem part_yes {n : Nat} {s : List UInt8} {ns : List Int} (h : listF s = (ns, 0)) (h2 : ns.length = n) : partB n s = true := by unfold partB; rw [h]; simp [h2]
theorem part_err {n : Nat} {s : List UInt8} {ns : List Int} {x : Int} (h : listF s = (ns, x)) (h2 : x ≠ 0) : partB n s = false := by unfold partB; rw [h, decide_eq_false h2]; rfl
theorem part_wid {n : Nat} {s : List UInt8} {ns : List Int} {x : Int} (h : listF s = (ns, x)) (h2 : ns.length ≠ n) : partB n s = false := by unfold partB; rw [h, decide_eq_false h2, Bool.and_false]
theorem cons_at {w0 : List UInt8} {a : List (List UInt8)} {k i : Nat} (h : i = k + 1) (hi : i < (w0 :: a).length) : (w0 :: a)[i] = a[k]'(by subst h; simpa using hi) := by subst h; rfl
set_option maxRecDepth 100000 in
set_option maxHeartbeats 8000000 in
theorem rValues_any (w0 : List UInt8) (a : List (List UInt8)) (A : Option Addr) (cap : Nat) (w : World) (hr : RdS cS w (Lt w) A (w0 :: a)) (hl : a.length ≤ 30000) (hw : ∀ x ∈ a, x.length ≤ 40000) :
    Calls Tryz.prog 67 #[.slice A (w0 :: a).length cap] w (OptR cI 3 w (valsW w0 a)) := by
  obtain ⟨i0, hi, hz0, hz1, hz2⟩ := info_parts infoInt
  have HW := Lib.hid hw
  obtain ⟨hwd1, hwd2⟩ := width_le w0
  have HWD := Lib.hid (rfl : widthF w0 = widthF w0)
  obtain ⟨wd, hwd⟩ : ∃ n, widthF w0 = n := ⟨_, rfl⟩
  rw [hwd] at hwd1 hwd2
  have HC1 := Lib.hid fun W => rWidthC hwd W
  have HNO := Lib.hid fun (k : Nat) (h : k < a.length) (hp : partB wd a[k] = false) => valsW_no (w := w0) h (by rw [hwd]; exact hp)
  have HEN := Lib.hid fun (k : Nat) (h : ¬ k < a.length) (hp : (a.take k).all (partB wd) = true) (ha : a ≠ []) => valsW_end (w := w0) h (by rw [hwd]; exact hp) ha
  have hzl : (w0 :: a).length = a.length + 1 := rfl
  obtain ⟨b, off, rfl, lb0, -, -⟩ := hr.elS (i := 0) (by simp)
  have HR := Lib.hid fun W (hb : Below w.heap.size w W) (i : Nat) (hi : i < (w0 :: a).length) => (hr.now hb).elS hi
  have HZ := Lib.hid fun W (hb : Below w.heap.size w W) => (hr.now hb).elS (i := 0) (by simp)
  rw [hzl]
  clear hw hwd HWD hr
  go_enter Tryz.func67, Tryz.ntmps67
  go_wp2_with fail
  go_loopw [4, 5] (fun v x wr => ∃ k i : Nat, k ≤ a.length ∧ x = .int .i64 i ∧ Hid (i = k + 1) ∧ OwnR cI wr w.heap.size 3 v (vals1 a k) 0 ∧ Below w.heap.size w wr ∧ Hid ((a.take k).all (partB wd) = true)) (fun _ x _ => a.length + 1 - (intOf x).toNat)
  case atStart => exact ⟨0, 1, Nat.zero_le _, rfl, Lib.hid rfl, OwnR.nil _ _ _ _ (Nat.zero_le _), Below.refl _ _, Lib.hid (by simp)⟩
  case round =>
    obtain ⟨k, i, hk, rfl, HI, hown, hb, HK⟩ := hrel
    have hsz := hb.size
    by_cases hlt : i < a.length + 1
    · have hki : (i : Int) < (a.length : Int) + 1 := by omega
      have hkl : k < a.length := by have := HI.out; omega
      obtain ⟨b1, off1, hA, lb, hsl, y0⟩ := HR.out wr hb i (by simpa using hlt)
      obtain ⟨rfl, rfl⟩ : b = b1 ∧ off = off1 := by simp only [Option.some.injEq, Addr.mk.injEq] at hA; exact ⟨hA.1, hA.2.1⟩
      have hpl := HW.out _ (List.getElem_mem hkl)
      have hq := cons_at (w0 := w0) (a := a) HI.out (by simpa using hlt)
      rw [hq] at y0
      obtain ⟨⟨ns, x⟩, hx⟩ : ∃ r, listF a[k] = r := ⟨_, rfl⟩
      have HC := Lib.hid fun W => rlistE hx W (by omega)
      have hvl := vals1_len (n := wd) (a := a) hk HK.out
      have hvb : k * wd ≤ 90000 := Nat.le_trans (Nat.mul_le_mul (show k ≤ 30000 by omega) hwd2) (by omega)
      have HI2 : Hid (i + 1 = k + 1 + 1) := Lib.hid (by rw [HI.out])
      clear hA hsl hq
      by_cases h0 : x = 0
      · subst h0
        by_cases h1 : ns.length = wd
        · have hpy := part_yes hx h1
          have HT := Lib.hid (vals1_step hkl hx)
          have HO := Lib.hid (all_take2 hkl HK.out hpy)
          have hkn : k + 1 ≤ a.length := by omega
          have t2 : ((ns.length : Int) != (wd : Int)) = false := by simp; omega
          have hnsl : (vals1 a k).length + ns.length ≤ 100000 := by omega
          clear hx HK hpy hpl hvl hvb h1
          generalize a[k] = q at *
          generalize vals1 a k = vs at *
          go_wp2_with fail
          refine (HC.out _).mono ?_
          rintro e w2 ⟨A7, c7, rfl, hrd7, hq⟩
          have hb2 := bel_then hb hsz hq
          obtain ⟨b1, off1, hA, -, -, z0⟩ := HZ.out w2 hb2
          obtain ⟨rfl, rfl⟩ : b = b1 ∧ off = off1 := by simp only [Option.some.injEq, Addr.mk.injEq] at hA; exact ⟨hA.1, hA.2.1⟩
          simp only [List.getElem_cons_zero, Nat.add_zero] at z0
          have hown2 := hown.now hq
          have hs2 := hb2.size
          dsimp only at hrd7 ⊢
          clear hA hown hb hq
          go_wp2_with fail
          refine (HC1.out _).mono ?_
          rintro e w3 ⟨rfl, rfl⟩
          go_wp2_with (at_builtin; go_loud (refine wpList_append_flat (c := cI) _ cI_flat rfl _ _ 23 rfl w.heap.size 3 i0 (.int .i64 0) 8 Tryz.underlying23 hi hz0 hz1 hz2 rfl (by decide) _ vs rfl hown2 A7 c7 ns rfl hrd7 (fun ys x h => ints_one ys x h) hnsl (by omega) hs2 ?_); intro v' w4 hown4 hf4)
          go_roundw
          case rel => exact ⟨k + 1, i + 1, hkn, by go_num, HI2, by rw [HT.out]; exact hown4, hf4.keeps (Nat.le_refl _) hs2 hb2, HO⟩
          case measure => simp [intOf]; omega
        · have HX := Lib.hid (HNO.out k hkl (part_wid hx h1))
          have t2 : ((ns.length : Int) != (wd : Int)) = true := by simp; omega
          clear hx HK hpl h1 hvl hvb
          generalize a[k] = q at *
          go_wp2_with fail
          refine (HC.out _).mono ?_
          rintro e w2 ⟨A7, c7, rfl, hrd7, hq⟩
          have hb2 := bel_then hb hsz hq
          obtain ⟨b1, off1, hA, -, -, z0⟩ := HZ.out w2 hb2
          obtain ⟨rfl, rfl⟩ : b = b1 ∧ off = off1 := by simp only [Option.some.injEq, Addr.mk.injEq] at hA; exact ⟨hA.1, hA.2.1⟩
          simp only [List.getElem_cons_zero, Nat.add_zero] at z0
          dsimp only at hrd7 ⊢
          clear hA hown hb hq hrd7
          go_wp2_with fail
          refine (HC1.out _).mono ?_
          rintro e w3 ⟨rfl, rfl⟩
          go_wp2_with fail
          go_ret2
          exact optR_none HX.out rfl hb2
      · have HX := Lib.hid (HNO.out k hkl (part_err hx h0))
        have hxb : (x != 0) = true := by simpa using h0
        clear hx HK h0 hpl hvl hvb
        generalize a[k] = q at *
        go_wp2_with fail
        refine (HC.out _).mono ?_
        rintro e w2 ⟨A7, c7, rfl, hrd7, hq⟩
        have hb2 := bel_then hb hsz hq
        dsimp only at hrd7 ⊢
        clear hown hb hq hrd7
        go_wp2_with fail
        go_ret2
        exact optR_none HX.out rfl hb2
    · have hke : ¬ k < a.length := by have := HI.out; omega
      by_cases ha : a = []
      · have HX : Hid (valsW w0 a = none) := Lib.hid (by unfold valsW; rw [if_pos ha])
        have hal : ¬ (1 : Int) < (a.length : Int) + 1 := by rw [ha]; simp
        generalize vals1 a k = ns at *
        obtain ⟨A', c', rfl⟩ := hown.form
        have HO := Lib.hid hown
        clear hown HK ha
        go_wp2_with fail
        go_ret2
        exact ⟨A', c', ns, by rw [HX.out]; rfl, HO.out, hb, Lib.hid fun x hx => by rw [HX.out] at hx; cases hx⟩
      · have HE := Lib.hid (HEN.out k hke HK.out ha)
        have hal : (1 : Int) < (a.length : Int) + 1 := by have := List.length_pos_iff.2 ha; omega
        generalize vals1 a k = ns at *
        obtain ⟨A', c', rfl⟩ := hown.form
        have HO := Lib.hid hown
        clear hown HK
        go_wp2_with fail
        go_ret2
        exact optR_some HE.out rfl HO.out hb
end Go.Proofs.YtlblfblkallnhaaGreatDoor
