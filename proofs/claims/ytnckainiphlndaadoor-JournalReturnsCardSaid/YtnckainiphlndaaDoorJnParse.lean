/- The walks of Parse and of its reference. -/
import Derived.Test.YtnckainiphlndaaDoorJnRead
import Derived.Test.YtnckainiphlndaaDoorJnLine
namespace Go.Proofs.YtnckainiphlndaaDoor
set_option linter.unusedVariables false
set_option linter.unusedSimpArgs false
open Go.RowKit
attribute [local go_sem] bs_size bs_get bs_append bs_extract bs_toList
theorem cut_nl_no (s : List UInt8) (w : World) (E : Env w) (hs : s.length < 4294967281) (h : (10 : UInt8) ∉ s) :
    Calls Tryd.prog 32 #[.string (bs s), .string (bs [10])] w fun e w' => e = .returned (.tuple #[.string (bs s), .string (bs []), .bool false]) ∧ Below w.heap.size w w' := by
  have h2 := cut_nl s w E hs
  rw [cut_no h] at h2
  exact h2
theorem cut_nl_at (a b : List UInt8) (w : World) (E : Env w) (hs : (a ++ 10 :: b).length < 4294967281) (h : (10 : UInt8) ∉ a) :
    Calls Tryd.prog 32 #[.string (bs (a ++ 10 :: b)), .string (bs [10])] w fun e w' => e = .returned (.tuple #[.string (bs a), .string (bs b), .bool true]) ∧ Below w.heap.size w w' := by
  have h2 := cut_nl (a ++ 10 :: b) w E hs
  rw [cut_at h] at h2
  exact h2
/-- The program's reader of a line, whatever the line. -/
theorem entry_any (l : List UInt8) (w : World) (E : EnvR w) (hs : l.length ≤ 1000000) : Calls Tryd.prog 33 #[.string (bs l)] w (EPost w (entF l)) := by
  rcases at_or 32 l with h1 | ⟨a, r, rfl, h1⟩
  · exact entry_no l w E hs h1
  · cases hi : intF a with
    | mk n x =>
      have hn : I64n n := by have := intF_i64 a; rw [hi] at this; exact this
      rcases at_or 32 r with h2 | ⟨b, c, rfl, h2⟩
      · by_cases hx : x = 0
        · subst hx
          cases ht : tmB n with
          | false => exact entry_t a r n w E hs h1 hi hn ht (entF_one h1 h2)
          | true => exact entry_one a r n w E hs h1 h2 hi hn ht (entF_one h1 h2)
        · exact entry_x a r n x w E hs h1 hi hx (entF_one h1 h2)
      · by_cases hx : x = 0
        · subst hx
          cases ht : tmB n with
          | false => exact entry_t a _ n w E hs h1 hi hn ht (entF_bad h1 h2 hi (Or.inr (Or.inl ht)))
          | true =>
            by_cases hl : b.length = 16
            · cases hg : legB c with
              | false => exact entry_leg a b c n w E hs h1 h2 hi hn ht hl hg
              | true => exact entry_ok a b c n w E hs h1 h2 hi hn ht hl hg
            · exact entry_len a b c n w E hs h1 h2 hi hn ht hl
        · exact entry_x a _ n x w E hs h1 hi hx (entF_bad h1 h2 hi (Or.inl hx))
theorem epost_none {w : World} {l : List UInt8} (h : entF l = none) {e : Ending} {w' : World} (hp : EPost w (entF l) e w') : e = .returned (.tuple #[.agg #[.int .i64 0, .string (bs []), .int .u64 0], .bool false]) ∧ Below w.heap.size w w' := by
  rw [h] at hp; exact hp
theorem epost_some {w : World} {l : List UInt8} {x : Ent} (h : entF l = some x) {e : Ending} {w' : World} (hp : EPost w (entF l) e w') : e = .returned (.tuple #[.agg #[.int .i64 x.time, .string (bs x.text), .int .u64 (x.sum : Int)], .bool true]) ∧ Below w.heap.size w w' := by
  rw [h] at hp; exact hp
/-- What Parse gives. -/
def PPost (w : World) (r : List Ent × Nat × Int) (e : Ending) (w' : World) : Prop := ∃ A cap, e = .returned (.tuple #[.slice A r.1.length cap, .int .i64 r.2.1, .int .i64 r.2.2]) ∧ (r.1.length ≤ maxLen ∧ r.1.length ≤ cap) ∧ RdS cE w' (Lt w') A r.1 ∧ Below w.heap.size w w'
theorem ppost_none {w w' : World} {r : List Ent × Nat × Int} {n : Nat} {x : Int} {e : Ending} (h : r = ([], n, x)) (hb : Below w.heap.size w w') (he : e = .returned (.tuple #[.slice none 0 0, .int .i64 n, .int .i64 x])) : PPost w r e w' := by
  subst h
  exact ⟨none, 0, he, by simp, RdS.nil _ _ _ _, hb⟩
theorem par_stop {s : List UInt8} {n : Nat} (h : scanJ [] [] s = ([], n, 4)) : parF s = ([], n, 4) := by unfold parF; rw [h]; rfl
theorem par_good {s : List UInt8} {j : List Ent} (h : scanJ [] [] s = (j, 0, 0)) (hv : verF j = -1) : parF s = (j, 0, 0) := by unfold parF; rw [h, if_pos rfl, if_pos hv]
theorem par_corrupt {s : List UInt8} {j : List Ent} {m : Nat} (h : scanJ [] [] s = (j, 0, 0)) (hv : verF j = m) : parF s = ([], m + 1, 6) := by
  unfold parF
  rw [h, if_pos rfl]
  simp only []
  rw [hv, if_neg (by omega)]
  rfl
theorem okX_entO {x : Ent} (h : okX x) : entO x := by
  have h2 := (legB_iff.1 h.2.1).1.2
  exact ⟨⟨(tm_i64 h.1).1, (tm_i64 h.1).2⟩, by unfold maxLen; omega, h.2.2⟩
def strJ : Value → Nat
  | .string b => b.size
  | _ => 0
theorem strJ_bs (l : List UInt8) : strJ (.string (bs l)) = l.length := bs_size l
set_option maxRecDepth 100000 in
set_option maxHeartbeats 8000000 in
theorem parse_any (s : List UInt8) (w : World) (E : EnvR w) (hs : s.length ≤ 90000) :
    Calls Tryd.prog 20 #[.string (bs s)] w (PPost w (parF s)) := by
  obtain ⟨i0, hi, hz0, hz1, hz2⟩ := info_parts infoE
  go_enter Tryd.func20, Tryd.ntmps20
  go_wp2_with fail
  go_loopw [0, 5] (fun sv v wr => ∃ (acc : List Ent) (rest : List UInt8), sv = .string (bs rest) ∧ acc.length + rest.length ≤ 90000 ∧ OwnR cE wr w.heap.size 37 v acc 0 ∧ Below w.heap.size w wr ∧ Hid (scanJ acc [] rest = scanJ [] [] s)) (fun sv _ _ => strJ sv)
  case atStart => exact ⟨[], s, rfl, by simpa using hs, OwnR.nil _ _ _ _ (Nat.zero_le _), Below.refl _ _, Lib.hid rfl⟩
  case round =>
    obtain ⟨acc, rest, rfl, hlen, hown, hbw, HK⟩ := hrel
    have hsz := hbw.size
    have E1 := E.now hbw
    have hal : acc.length ≤ 90000 := by omega
    have hrl : rest.length ≤ 90000 := by omega
    rcases at_or 10 rest with h10 | ⟨a, b, hab, h10⟩
    · by_cases hem : rest = []
      · subst hem
        have hsc : scanJ [] [] s = (acc, 0, 0) := by rw [← HK.out]; rfl
        obtain ⟨A', cap', rfl, hcap, hr2⟩ := hown.reads2
        have hcm := hcap.1
        clear hown hlen
        rcases verF_cases acc with hv | ⟨hv1, hv2⟩
        · have HP := Lib.hid (par_good hsc hv)
          have HV := Lib.hid hv
          clear hv hsc
          go_wp2_with fail
          refine (verifyD HV.out A' cap' _ E1.toEnv hr2 (by unfold maxLen; omega) hcap.2).mono ?_
          rintro e w2 ⟨rfl, hb2⟩
          go_wp2_with fail
          go_ret3
          exact ⟨A', cap', by rw [HP.out]; rfl, by rw [HP.out]; exact hcap, by rw [HP.out]; exact hr2.now hb2, bel_then hbw hsz hb2⟩
        · obtain ⟨m, hm⟩ : ∃ m : Nat, verF acc = m := ⟨(verF acc).toNat, by omega⟩
          have HP := Lib.hid (par_corrupt hsc hm)
          have HV := Lib.hid hm
          have hml : m ≤ 90000 := by omega
          clear hm hsc hv1 hv2
          go_wp2_with fail
          refine (verifyD HV.out A' cap' _ E1.toEnv hr2 (by unfold maxLen; omega) hcap.2).mono ?_
          rintro e w2 ⟨rfl, hb2⟩
          have hm1 : (0 : Int) ≤ (m : Int) := by omega
          go_wp2_with fail
          go_ret3
          exact ppost_none HP.out (bel_then hbw hsz hb2) (by simp)
      · have H2 := Lib.hid (par_stop (s := s) (n := acc.length + 1) (by rw [← HK.out, scanJ_end acc rest [] h10, if_neg (by simpa using hem)]))
        have hpos : (0 : Int) < (rest.length : Int) := by have := List.length_pos_iff.2 hem; omega
        have H10 := Lib.hid h10
        obtain ⟨A', cap', rfl⟩ := hown.form
        have HEN := Lib.hid fun (W : World) (E : EnvR W) => entry_any rest W E (by omega)
        clear hem h10
        go_wp2_with fail
        refine (cut_nl_no rest _ E1.toEnv (by omega) H10.out).mono ?_
        rintro e w2 ⟨rfl, hb2⟩
        have hB2 := bel_then hbw hsz hb2
        have E2 := E1.now hb2
        cases hen : entF rest with
        | none =>
          have HE := Lib.hid hen
          clear hen
          go_wp2_with fail
          refine (HEN.out _ E2).mono ?_
          intro e w3 hp
          obtain ⟨rfl, hb3⟩ := epost_none HE.out hp
          clear hp
          go_wp2_with fail
          go_ret3
          exact ppost_none H2.out ((bel_then hB2 hB2.size hb3).alloc (Nat.le_trans hB2.size hb3.size) _) (by simp)
        | some x =>
          have HE := Lib.hid hen
          clear hen
          go_wp2_with fail
          refine (HEN.out _ E2).mono ?_
          intro e w3 hp
          obtain ⟨rfl, hb3⟩ := epost_some HE.out hp
          clear hp
          go_wp2_with fail
          go_ret3
          exact ppost_none H2.out ((bel_then hB2 hB2.size hb3).alloc (Nat.le_trans hB2.size hb3.size) _) (by simp)
    · subst hab
      have hlen2 : acc.length + a.length + b.length + 1 ≤ 90000 := by simp at hlen; omega
      have HL : Hid ((a ++ 10 :: b).length = a.length + b.length + 1) := Lib.hid (by simp; omega)
      have hpos : (0 : Int) < ((a ++ 10 :: b).length : Int) := by rw [HL.out]; omega
      have H10 := Lib.hid h10
      have HC := Lib.hid (cut_nl_at a b wr E1.toEnv (by rw [HL.out]; omega) H10.out)
      have HS := Lib.hid (scanJ_cut acc b a [] h10)
      have HM : Hid (strJ (.string (bs b)) < strJ (.string (bs (a ++ 10 :: b)))) := Lib.hid (by rw [strJ_bs, strJ_bs, HL.out]; omega)
      have HEN := Lib.hid fun (W : World) (E : EnvR W) => entry_any a W E (by omega)
      clear h10 hlen hrl
      generalize hr : a ++ 10 :: b = r at *
      clear hr
      cases hen : entF a with
      | none =>
        have H2 := Lib.hid (par_stop (s := s) (n := acc.length + 1) (by rw [← HK.out, HS.out, List.nil_append, hen]))
        have HE := Lib.hid hen
        obtain ⟨A', cap', rfl⟩ := hown.form
        clear hen
        go_wp2_with fail
        refine HC.out.mono ?_
        rintro e w2 ⟨rfl, hb2⟩
        have hB2 := bel_then hbw hsz hb2
        have E2 := E1.now hb2
        go_wp2_with fail
        refine (HEN.out _ E2).mono ?_
        intro e w3 hp
        obtain ⟨rfl, hb3⟩ := epost_none HE.out hp
        clear hp
        go_wp2_with fail
        go_ret3
        exact ppost_none H2.out ((bel_then hB2 hB2.size hb3).alloc (Nat.le_trans hB2.size hb3.size) _) (by simp)
      | some x =>
        have H2 : Hid (scanJ (acc ++ [x]) [] b = scanJ [] [] s) := Lib.hid (by rw [← HK.out, HS.out, List.nil_append, hen])
        have hxo := okX_entO (line_entF hen).2
        have HE := Lib.hid hen
        clear hen
        go_wp2_with fail
        refine HC.out.mono ?_
        rintro e w2 ⟨rfl, hb2⟩
        have hB2 := bel_then hbw hsz hb2
        have E2 := E1.now hb2
        go_wp2_with fail
        refine (HEN.out _ E2).mono ?_
        intro e w3 hp
        obtain ⟨rfl, hb3⟩ := epost_some HE.out hp
        clear hp
        have hB3 := bel_then hB2 hB2.size hb3
        have hown4 := (((hown.now hb2).now hb3).alloc (.cells #[.int .i64 x.time, .string (bs x.text), .int .u64 (x.sum : Int)] 37))
        have hB4 := hB3.alloc hB3.size (.cells #[.int .i64 x.time, .string (bs x.text), .int .u64 (x.sum : Int)] 37)
        have hsz4 := hB4.size
        clear hown
        go_wp2_with (at_builtin; go_loud (refine wpList_append_r (c := cE) _ rfl _ _ 22 rfl w.heap.size 37 i0 _ 32 Tryd.underlying22 hi hz0 hz1 hz2 rfl (by decide) _ acc 0 rfl hown4 [_, _, _] x ⟨rfl, hxo⟩ (fun u hu => cellsE_cell [x] u (by rw [cellsE_one]; exact hu)) _ (by rw [World.size_alloc]; rfl) (by omega) (by omega) (by omega) ?_); intro v' w5 hown5 hf5 hs5)
        go_roundw
        case rel => exact ⟨acc ++ [x], b, rfl, by simp; omega, hown5, hf5.keeps (Nat.le_refl _) hsz4 hB4, H2⟩
        case measure => exact HM.out
end Go.Proofs.YtnckainiphlndaaDoor
