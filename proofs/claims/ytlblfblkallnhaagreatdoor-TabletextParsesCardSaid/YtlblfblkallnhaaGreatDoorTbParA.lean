/- What tabletext.Parse is made of: ints, parts. -/
import Derived.Test.YtlblfblkallnhaaGreatDoorTbRows
namespace Go.Proofs.YtlblfblkallnhaaGreatDoor
set_option linter.unusedVariables false
set_option linter.unusedSimpArgs false
open Go.RowKit
attribute [local go_sem] bs_size bs_get bs_append bs_extract bs_toList
attribute [-go_sem] run_equalIn_agg
/-- A row, and whether the words were right. -/
def OptR {α : Type} (c : Cod α) (e : TypeId) (w : World) (r : Option (List α)) (en : Ending) (w' : World) : Prop :=
  ∃ (A : Option Addr) (cap : Nat) (l : List α), en = .returned (.tuple #[.slice A l.length cap, .bool r.isSome]) ∧ OwnR c w' w.heap.size e (.slice A l.length cap) l 0 ∧ Below w.heap.size w w' ∧ Hid (∀ x, r = some x → l = x)
theorem optR_none {α : Type} {c : Cod α} {e : TypeId} {w w' : World} {r : Option (List α)} {en : Ending} (h : r = none) (he : en = .returned (.tuple #[.slice none 0 0, .bool false])) (hb : Below w.heap.size w w') : OptR c e w r en w' := by
  subst h
  exact ⟨none, 0, [], he, OwnR.nil _ _ _ _ (Nat.zero_le _), hb, Lib.hid fun x hx => by cases hx⟩
theorem optR_some {α : Type} {c : Cod α} {e : TypeId} {w w' : World} {r : Option (List α)} {en : Ending} {l : List α} {A : Option Addr} {cap : Nat} (h : r = some l) (he : en = .returned (.tuple #[.slice A l.length cap, .bool true])) (ho : OwnR c w' w.heap.size e (.slice A l.length cap) l 0) (hb : Below w.heap.size w w') : OptR c e w r en w' := by
  subst h
  exact ⟨A, cap, l, he, ho, hb, Lib.hid fun x hx => Option.some.inj hx⟩
def okI (w : List UInt8) : Bool := decide ((intF w).2 = 0)
def valsI (l : List (List UInt8)) (k : Nat) : List Int := (l.take k).map fun w => (intF w).1
theorem valsI_len (l : List (List UInt8)) (k : Nat) : (valsI l k).length ≤ l.length := by simp [valsI]; omega
theorem valsI_step {l : List (List UInt8)} {k : Nat} (h : k < l.length) {n x : Int} (hx : intF l[k] = (n, x)) : valsI l (k + 1) = valsI l k ++ [n] := by unfold valsI; rw [map_take _ h, hx]
theorem okI_step {l : List (List UInt8)} {k : Nat} (h : k < l.length) {n : Int} (hx : intF l[k] = (n, 0)) (h2 : (l.take k).all okI = true) : (l.take (k + 1)).all okI = true := all_take2 h h2 (by unfold okI; rw [hx]; rfl)
theorem optI_no {l : List (List UInt8)} {k : Nat} (h : k < l.length) {n x : Int} (hx : intF l[k] = (n, x)) (h0 : x ≠ 0) : optI l = none := by
  unfold optI; rw [if_neg]; rw [Bool.not_eq_true]; exact all_no2 h (by rw [hx]; simpa using h0)
theorem optI_end {l : List (List UInt8)} {k : Nat} (h : ¬ k < l.length) (h2 : (l.take k).all okI = true) : optI l = some (valsI l k) := by
  unfold optI valsI
  rw [List.take_of_length_le (by omega)] at h2 ⊢
  exact if_pos h2
set_option maxRecDepth 100000 in
set_option maxHeartbeats 4000000 in
theorem ints_any (l : List (List UInt8)) (A : Option Addr) (cap : Nat) (w : World) (E : EnvR w) (hr : RdS cS w (Lt w) A l) (hl : l.length ≤ 40000) (hw : ∀ x ∈ l, x.length ≤ 40000) :
    Calls Tryz.prog 85 #[.slice A l.length cap] w (OptR cI 3 w (optI l)) := by
  obtain ⟨i0, hi, hz0, hz1, hz2⟩ := info_parts infoInt
  have HW := Lib.hid hw
  clear hw
  go_enter Tryz.func85, Tryz.ntmps85
  go_wp2_with fail
  go_loopw [4, 11] (fun v i wr => ∃ k : Nat, k ≤ l.length ∧ i = .int .i64 k ∧ OwnR cI wr w.heap.size 3 v (valsI l k) 0 ∧ Below w.heap.size w wr ∧ Hid ((l.take k).all okI = true)) (fun _ i _ => l.length - (intOf i).toNat)
  case atStart => exact ⟨0, Nat.zero_le _, rfl, OwnR.nil _ _ _ _ (Nat.zero_le _), Below.refl _ _, Lib.hid (by simp)⟩
  case round =>
    obtain ⟨k, hk, rfl, hown, hb, HK⟩ := hrel
    have hsz := hb.size
    by_cases hlt : k < l.length
    · have hki : (k : Int) < (l.length : Int) := by omega
      obtain ⟨b, off, hA, lb, hsl, y0⟩ := (hr.now hb).elS hlt
      have hpl := HW.out _ (List.getElem_mem hlt)
      obtain ⟨⟨n, x⟩, hx⟩ : ∃ r, intF l[k] = r := ⟨_, rfl⟩
      have hi6 := intP_i64 l[k]
      rw [hx] at hi6
      have HN := Lib.hid hi6
      have HC := Lib.hid fun W E => intPC hx W E (by omega)
      have hkl := valsI_len l k
      rw [hA]
      clear hA hi6 hsl
      by_cases h0 : x = 0
      · subst h0
        have HT := Lib.hid (valsI_step hlt hx)
        have HO := Lib.hid (okI_step hlt hx HK.out)
        clear hx HK
        generalize l[k] = q at *
        generalize valsI l k = ns at *
        go_wp2_with fail
        refine (HC.out _ (E.now hb)).mono ?_
        rintro e w2 ⟨rfl, hq⟩
        have hown2 := hown.now hq
        have hb2 := bel_then hb hsz hq
        have hs2 := hb2.size
        clear hown hb hq
        go_wp2_with (at_builtin; go_loud (refine wpList_append_r (c := cI) _ rfl _ _ 23 rfl w.heap.size 3 i0 (.int .i64 0) 8 Tryz.underlying23 hi hz0 hz1 hz2 rfl (by decide) _ ns 0 rfl hown2 [.int .i64 n] n ⟨rfl, HN.out⟩ (by intro u hu; simp at hu; subst hu; rfl) _ rfl (by omega) (by omega) (by omega) ?_); intro v' w3 hown3 hf3 hs3)
        go_roundw
        case rel => exact ⟨k + 1, by omega, by go_num, by rw [HT.out]; exact hown3, hf3.keeps (Nat.le_refl _) hs2 hb2, HO⟩
        case measure => simp [intOf]; omega
      · have HX := Lib.hid (optI_no hlt hx h0)
        have hxb : (x != 0) = true := by simpa using h0
        clear hx HK h0
        generalize l[k] = q at *
        go_wp2_with fail
        refine (HC.out _ (E.now hb)).mono ?_
        rintro e w2 ⟨rfl, hq⟩
        have hb2 := bel_then hb hsz hq
        clear hown hb hq
        go_wp2_with fail
        go_ret2
        exact optR_none HX.out rfl hb2
    · have HE := Lib.hid (optI_end hlt HK.out)
      generalize valsI l k = ns at *
      obtain ⟨A', c', rfl⟩ := hown.form
      have HO := Lib.hid hown
      clear hown HK
      go_wp2_with fail
      go_ret2
      exact optR_some HE.out rfl HO.out hb
/-! ### A word that is a list -/
/-- .. with a row of the call's own. -/
def ListPost2 (w : World) (r : List Int × Int) (e : Ending) (w' : World) : Prop :=
  ∃ A cap, e = .returned (.tuple #[.slice A r.1.length cap, .int .i64 r.2]) ∧ OwnR cI w' w.heap.size 3 (.slice A r.1.length cap) r.1 0 ∧ Below w.heap.size w w'
set_option maxRecDepth 100000 in
set_option maxHeartbeats 4000000 in
theorem list_any2 (s : List UInt8) (w : World) (E : EnvR w) (hs : s.length ≤ 90000) :
    Calls Tryz.prog 126 #[.string (bs s)] w (ListPost2 w (listF s)) := by
  by_cases hm : s = [45]
  · subst hm
    have HF : Hid (listF [45] = ([], 0)) := Lib.hid rfl
    go_enter Tryz.func126, Tryz.ntmps126
    go_wp2_with fail
    go_ret2
    exact ⟨none, 0, by rw [HF.out]; rfl, by rw [HF.out]; exact OwnR.nil _ _ _ _ (Nat.zero_le _), Below.refl _ _⟩
  · have hm2 : (s == [45]) = false := by simp [hm]
    have HF : Hid (listF s = listK [] (spl 44 s)) := Lib.hid (by unfold listF; rw [if_neg hm])
    clear hm
    have HP : Hid (∀ p ∈ spl 44 s, p.length ≤ s.length) := Lib.hid fun p hp => spl_part hp
    have hn : (spl 44 s).length ≤ s.length + 1 := spl_count s
    obtain ⟨i0, hi, hz0, hz1, hz2⟩ := info_parts infoInt
    go_enter Tryz.func126, Tryz.ntmps126
    go_wp2_with fail
    refine (split_rd 44 s _ E.toEnv (by omega)).mono ?_
    rintro e w1 ⟨A, rfl, hr, hb1, hz⟩
    have E1 := E.now hb1
    generalize spl 44 s = ps at *
    go_wp2_with fail
    go_loopw [4, 14] (fun v i wr => ∃ (k : Nat) (acc : List Int), k ≤ ps.length ∧ i = .int .i64 k ∧ acc.length = k ∧ OwnR cI wr w1.heap.size 3 v acc 0 ∧ Below w1.heap.size w1 wr ∧ Hid (listK acc (ps.drop k) = listF s)) (fun _ i _ => ps.length - (intOf i).toNat)
    case atStart => exact ⟨0, [], Nat.zero_le _, rfl, rfl, OwnR.nil _ _ _ _ (Nat.zero_le _), Below.refl _ _, Lib.hid (by rw [HF.out]; rfl)⟩
    case round =>
      obtain ⟨k, acc, hk, rfl, hacc, hown, hbw, HK⟩ := hrel
      have HACC := Lib.hid hacc
      clear hacc
      have E2 := E1.now hbw
      have hsz := hbw.size
      by_cases hlt : k < ps.length
      · obtain ⟨b, off, hA, hc⟩ := (hr.now hbw).pick rfl
        obtain ⟨rfl, _⟩ := hA (by omega)
        obtain ⟨u, hu, x0⟩ := hc k _ (List.getElem?_eq_getElem hlt)
        obtain ⟨rfl, _⟩ := cS_cell hu
        have hpl := HP.out ps[k] (List.getElem_mem hlt)
        have HD : Hid (listK acc (ps.drop k) = if (intF ps[k]).2 = 0 then listK (acc ++ [(intF ps[k]).1]) (ps.drop (k + 1)) else ([], (intF ps[k]).2)) := Lib.hid (by rw [List.drop_eq_getElem_cons hlt]; rfl)
        clear hc hA hu
        have hki : (k : Int) < (ps.length : Int) := by omega
        generalize ps[k] = p at x0 hpl HD
        have hin := int_any p
        have hrg := intF_range p
        generalize intF p = ip at hin hrg HD
        obtain ⟨n, e⟩ := ip
        obtain ⟨hn1, hn2, hn3⟩ := hrg
        simp only at HD hin hn1 hn2 hn3
        have HIN := Lib.hid hin
        clear hin
        by_cases he : e = 0
        · subst he
          have H2 : Hid (listK (acc ++ [n]) (ps.drop (k + 1)) = listF s) := Lib.hid (by rw [← HK.out, HD.out, if_pos rfl])
          clear hn2 hn3
          go_wp2_with fail
          refine (HIN.out _ (E2.now (by first | exact Below.refl _ _ | skip)) (by omega)).mono ?_
          rintro e w2 ⟨rfl, hb2⟩
          have hown2 := hown.now hb2
          have hsz2 := hb2.size
          go_wp2_with (at_builtin; go_loud (refine wpList_append_r (c := cI) _ rfl _ _ 23 rfl w1.heap.size 3 i0 (.int .i64 0) 8 Tryz.underlying23 hi hz0 hz1 hz2 rfl (by decide) _ acc 0 rfl hown2 [.int .i64 n] n ⟨rfl, hn1⟩ (by intro u hu; simp at hu; subst hu; rfl) _ rfl (by have := HACC.out; omega) (by omega) (by omega) ?_); intro v' w3 hown3 hf3 hs3)
          go_roundw
          case rel => exact ⟨k + 1, acc ++ [n], by omega, by go_num, by simp [HACC.out], hown3, hf3.keeps (Nat.le_refl _) (by omega) (bel_then hbw hsz hb2), H2⟩
          case measure => simp [intOf]; omega
        · have H2 : Hid (listF s = ([], e)) := Lib.hid (by rw [← HK.out, HD.out, if_neg he])
          have he2 : (e != 0) = true := by simp [he]
          clear he
          go_wp2_with fail
          refine (HIN.out _ E2 (by omega)).mono ?_
          rintro e' w2 ⟨rfl, hb2⟩
          go_wp2_with fail
          go_ret2
          exact ⟨none, 0, by rw [H2.out]; rfl, by rw [H2.out]; exact OwnR.nil _ _ _ _ (Nat.zero_le _), hb1.trans ((bel_then hbw hsz hb2).mono (by omega))⟩
      · have hk2 : ps.drop k = [] := List.drop_of_length_le (by omega)
        have H2 : Hid (listF s = (acc, 0)) := Lib.hid (by rw [← HK.out, hk2]; rfl)
        clear hk2
        obtain ⟨A', cap', rfl⟩ := hown.form
        have HR2 := Lib.hid (hown.lower (base := w.heap.size) hb1.size)
        clear hown
        go_wp2_with fail
        go_ret2
        exact ⟨A', cap', by rw [H2.out]; rfl, by rw [H2.out]; exact HR2.out, hb1.trans (hbw.mono (by omega))⟩
theorem commas_yes {l : List UInt8} {k : Nat} (h : k < l.length) (h2 : l[k] = 44) : commas (l.take (k + 1)) = commas (l.take k) + 1 := by
  unfold commas
  rw [List.take_succ_eq_append_getElem h, List.filter_append, List.length_append]
  simp [h2]
theorem commas_not {l : List UInt8} {k : Nat} (h : k < l.length) (h2 : ¬ l[k] = 44) : commas (l.take (k + 1)) = commas (l.take k) := by
  unfold commas
  rw [List.take_succ_eq_append_getElem h, List.filter_append, List.length_append]
  simp [h2]
theorem commas_le (l : List UInt8) : commas l ≤ l.length := List.length_filter_le _ _
/-- The result of parts. -/
def PartP (w : World) (n : Nat) (s : List UInt8) (e : Ending) (w' : World) : Prop :=
  ∃ A cap l, e = .returned (.tuple #[.slice A (List.length l) cap, .bool (partB n s)]) ∧ OwnR cI w' w.heap.size 3 (.slice A (List.length l) cap) l 0 ∧ Below w.heap.size w w' ∧ Hid (partB n s = true → l = (listF s).1)
theorem u8_i {c : UInt8} (h : c = 44) : (((c.toNat : Int)) == 44) = true := by subst h; rfl
theorem u8_n {c : UInt8} (h : ¬ c = 44) : (((c.toNat : Int)) == 44) = false := by
  have h2 : c.toNat ≠ 44 := fun h2 => h (UInt8.toNat_inj.1 h2)
  simp; omega
theorem part_no {n : Nat} {s : List UInt8} (hn : 1 ≤ n) (h : commas s ≠ n - 1) : partB n s = false := by
  cases hp : partB n s with
  | false => rfl
  | true => exact absurd (part_commas hn hp) h
theorem listPC {s : List UInt8} {r : List Int × Int} (h : listF s = r) (w : World) (E : EnvR w) (hs : s.length ≤ 90000) : Calls Tryz.prog 126 #[.string (bs s)] w (ListPost2 w r) := h ▸ list_any2 s w E hs
theorem own_ints {w : World} {base : Nat} {e : TypeId} {v : Value} {l : List Int} (h : OwnR cI w base e v l 0) (hl : 0 < l.length) : ∃ g c, v = .slice (some ⟨g, 0, none⟩) l.length c ∧ l.length ≤ c := by
  obtain ⟨A, c, rfl, h1, h2⟩ := h.reads2
  obtain ⟨xs, h3, _⟩ := h
  rcases h3.2 with ⟨h4, h5⟩ | ⟨g, cap, cur, h4, _⟩
  · omega
  · simp only [Value.slice.injEq] at h4
    obtain ⟨rfl, _⟩ := h4
    exact ⟨g, c, rfl, h1.2⟩
theorem own_cellI {w : World} {base : Nat} {e : TypeId} {g o n c : Nat} {l : List Int} (h : OwnR cI w base e (.slice (some ⟨g, o, none⟩) n c) l 0) {i : Nat} (hi : i < l.length) : w.cell? ⟨g, o + i, none⟩ = some (.int .i64 l[i]) ∧ I64n l[i] := by
  obtain ⟨A, c2, h0, h1, h2⟩ := h.reads2
  simp only [Value.slice.injEq] at h0
  obtain ⟨rfl, _, _⟩ := h0
  obtain ⟨b, off, h3, _, h4, h5⟩ := h2.elI hi
  simp only [Option.some.injEq, Addr.mk.injEq, and_true] at h3
  obtain ⟨rfl, rfl⟩ := h3
  exact ⟨h5, h4⟩
set_option maxRecDepth 100000 in
set_option maxHeartbeats 4000000 in
theorem parts_any (s : List UInt8) (n : Nat) (hn : 1 ≤ n ∧ n ≤ 100) (w : World) (E : EnvR w) (hs : s.length ≤ 40000) (hw : ∀ c ∈ s, c.toNat < 128) :
    Calls Tryz.prog 108 #[.string (bs s), .int .i64 n] w (PartP w n s) := by
  obtain ⟨⟨ns, x⟩, hx⟩ : ∃ r, listF s = r := ⟨_, rfl⟩
  have HLI := Lib.hid fun W E => listPC hx W E (by omega)
  have HPB : Hid (partB n s = (decide (x = 0) && decide (ns.length = n))) := Lib.hid (by unfold partB; rw [hx])
  have HX : Hid ((listF s).1 = ns) := Lib.hid (by rw [hx])
  have HW := Lib.hid hw
  have hn1 := hn.1
  have hn2 := hn.2
  have hw1 : IntKind.i64.wrap ((n : Int) - 1) = (n : Int) - 1 := IntWalk.i64_in _ (by omega)
  clear hw hx hn
  go_enter Tryz.func108, Tryz.ntmps108
  go_wp2_with fail
  go_loopw [6] (fun m w' => ∃ pos : Nat, w' = w.iter (bs s) pos ∧ pos ≤ s.length ∧ m = .int .i64 (commas (s.take pos) : Nat)) (fun _ w' => s.length - w'.iterPos w.heap.size)
  case atStart => exact ⟨0, rfl, Nat.zero_le _, rfl⟩
  case round =>
    obtain ⟨pos, rfl, hp, rfl⟩ := hrel
    by_cases hlt : pos < s.length
    · have hsz : pos < (bs s).size := by rw [bs_size]; exact hlt
      have hnx : ∀ ty, (Instr.next (.pointer (some ⟨w.heap.size, 0, none⟩)) true ty).run Tryz.prog (w.iter (bs s) pos) = .ok (.tuple #[.bool true, .int .i64 pos, .int .i32 (s[pos].toNat)]) (w.iter (bs s) (pos + 1)) := fun ty => run_next_ascii w (bs s) pos ty hsz (HW.out _ (List.getElem_mem hlt))
      have hcl := commas_le (s.take pos)
      rw [List.length_take] at hcl
      by_cases hc : s[pos] = 44
      · have hcb := u8_i hc
        have HCS := Lib.hid (commas_yes hlt hc)
        clear hc
        generalize s[pos] = c at *
        generalize commas (s.take pos) = m at *
        have hm : (m : Int) ≤ 40000 := by omega
        clear hcl
        go_wp2_with fail
        go_roundw
        case rel => exact ⟨pos + 1, rfl, by omega, by rw [HCS.out]; go_num⟩
        case measure => simp; omega
      · have hcb := u8_n hc
        have HCS := Lib.hid (commas_not hlt hc)
        clear hc
        generalize s[pos] = c at *
        generalize commas (s.take pos) = m at *
        clear hcl
        go_wp2_with fail
        go_roundw
        case rel => exact ⟨pos + 1, rfl, by omega, by rw [HCS.out]⟩
        case measure => simp; omega
    · have hnx : ∀ ty, (Instr.next (.pointer (some ⟨w.heap.size, 0, none⟩)) true ty).run Tryz.prog (w.iter (bs s) pos) = _ := fun ty => run_next_end w (bs s) pos ty (by rw [bs_size]; exact hlt)
      have hbel : Below w.heap.size w (w.iter (bs s) pos) := (Below.refl _ _).alloc (Nat.le_refl _) _
      rw [List.take_of_length_le (by omega)]
      by_cases hc : commas s = n - 1
      · have hcb : (((commas s : Nat) : Int) != ((n : Int) - 1)) = false := by simp; omega
        clear hc
        generalize commas s = m at *
        go_wp2_with fail
        refine (HLI.out _ (E.now hbel)).mono ?_
        rintro e w2 ⟨A, cap, rfl, hrd, hq⟩
        dsimp only at hrd ⊢
        have hb2 := bel_then hbel hbel.size hq
        have HRD := Lib.hid (hrd.lower (base := w.heap.size) hbel.size)
        clear hbel hq hnx hrd
        obtain ⟨b1, hb1⟩ : ∃ b1, (x == 0) = b1 := ⟨_, rfl⟩
        obtain ⟨b3, hb3⟩ : ∃ b3, ((ns.length : Int) == (n : Int)) = b3 := ⟨_, rfl⟩
        have HB : Hid (partB n s = (b1 && b3)) := Lib.hid (by rw [HPB.out, ← hb1, ← hb3, Bool.eq_iff_iff]; simp; omega)
        cases b1 <;> cases b3
        all_goals (
          go_wp2_with fail
          go_ret2
          exact ⟨A, cap, ns, by rw [HB.out]; rfl, HRD.out, hb2, Lib.hid fun _ => HX.out.symm⟩)
      · have hcb : (((commas s : Nat) : Int) != ((n : Int) - 1)) = true := by simp; omega
        have HF := Lib.hid (part_no hn1 hc)
        clear hc
        generalize commas s = m at *
        go_wp2_with fail
        go_ret2
        exact ⟨none, 0, [], by rw [HF.out]; rfl, OwnR.nil _ _ _ _ (Nat.zero_le _), hbel, Lib.hid fun h => by rw [HF.out] at h; cases h⟩
end Go.Proofs.YtlblfblkallnhaaGreatDoor
