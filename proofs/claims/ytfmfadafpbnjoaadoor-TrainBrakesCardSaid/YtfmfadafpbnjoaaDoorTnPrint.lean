/- The walks of Print and of its reference. -/
import Derived.Test.YtfmfadafpbnjoaaDoorTnWalksD
namespace Go.Proofs.YtfmfadafpbnjoaaDoor
set_option linter.unusedVariables false
set_option linter.unusedSimpArgs false
open Go.RowKit
attribute [local go_sem] bs_size bs_get bs_append bs_extract bs_toList
/-- A row of texts of the call's own, in block g. -/
def SRow (w : World) (T : TypeId) (g cap : Nat) (l : List (List UInt8)) : Prop := ∃ cur : Array Value, Blk w g T cur ∧ cur.size = cap ∧ cur.toList.take l.length = l.map (fun x => Value.string (bs x)) ∧ (l.length ≤ cap ∧ cap ≤ maxLen)
section
variable {w w' : World} {T : TypeId} {g cap : Nat} {l : List (List UInt8)}
theorem SRow.now (h : SRow w T g cap l) (hb : Below w.heap.size w w') : SRow w' T g cap l := by
  obtain ⟨cur, h1, h2⟩ := h
  exact ⟨cur, h1.now hb, h2⟩
theorem SRow.lt (h : SRow w T g cap l) : g < w.heap.size := by
  obtain ⟨cur, h1, h2⟩ := h
  exact h1.lt
theorem SRow.cap_le (h : SRow w T g cap l) : l.length ≤ cap ∧ cap ≤ maxLen := by
  obtain ⟨cur, h1, h2, h3, h4⟩ := h
  exact h4
theorem SRow.at (h : SRow w T g cap l) {i : Nat} (hi : i < l.length) : w.cell? ⟨g, i, none⟩ = some (.string (bs l[i])) ∧ ∀ q, w.frozen? ⟨g, q, none⟩ = false := by
  obtain ⟨cur, h1, h2, h3, h4⟩ := h
  refine ⟨?_, fun q => h1.free q⟩
  rw [h1.cell]
  have e : (cur.toList.take l.length)[i]? = some (.string (bs l[i])) := by rw [h3, List.getElem?_map, List.getElem?_eq_getElem hi]; rfl
  rw [List.getElem?_take, if_pos hi, Array.getElem?_toList] at e
  exact e
theorem SRow.own (h : SRow w T g cap l) {base : Nat} (hg : base ≤ g) : w.ownsRow base T 1 (.slice (some ⟨g, 0, none⟩) l.length cap) l.length (l.map fun x => Value.string (bs x)) := by
  obtain ⟨cur, h1, h2, h3, h4, h5⟩ := h
  exact ⟨by simp, Or.inr ⟨g, cap, cur, rfl, hg, h1, h4, h5, by omega, by simpa using h3⟩⟩
theorem SRow.of_own {base : Nat} {v : Value} (h : w.ownsRow base T 1 v l.length (l.map fun x => Value.string (bs x))) (hl : 0 < l.length) : ∃ g cap, v = .slice (some ⟨g, 0, none⟩) l.length cap ∧ base ≤ g ∧ SRow w T g cap l := by
  rcases h.2 with ⟨_, h0⟩ | ⟨g, cap, cur, rfl, h1, h2, h3, h4, h5, h6⟩
  · omega
  · exact ⟨g, cap, rfl, h1, cur, h2, by omega, by simpa using h6, h3, h4⟩
theorem SRow.set (h : SRow w T g cap l) {i : Nat} (x : List UInt8) (hi : i < l.length) : SRow (w.setCell ⟨g, i, none⟩ (.string (bs x))) T g cap (l.set i x) := by
  obtain ⟨cur, h1, h2, h3, h4⟩ := h
  refine ⟨cur.setIfInBounds i (.string (bs x)), h1.set _ _, by rw [Array.size_setIfInBounds]; exact h2, ?_, by rw [List.length_set]; exact h4⟩
  rw [List.length_set, Array.toList_setIfInBounds, List.take_set, h3, List.map_set]
end
theorem SRow.rds {w : World} {T : TypeId} {g cap : Nat} {l : List (List UInt8)} (h : SRow w T g cap l) (hx : ∀ x ∈ l, x.length ≤ maxLen) : RdS cS w (Lt w) (some ⟨g, 0, none⟩) l := by
  refine fun _ => ⟨g, 0, rfl, h.lt, fun i x hi => ⟨[.string (bs x)], ⟨rfl, hx x (List.mem_of_getElem? hi)⟩, fun j u hu => ?_⟩⟩
  obtain ⟨hlt, rfl⟩ := List.getElem?_eq_some_iff.1 hi
  match j, hu with
  | 0, hu =>
    simp only [List.getElem?_cons_zero, Option.some.injEq] at hu
    subst hu
    have := (h.at hlt).1
    have e : 0 + i * cS.size + 0 = i := by simp [cS]
    rw [e]
    exact this
  | j + 1, hu => simp at hu
theorem infoStrT : (Tryd.prog.info? 9).map (fun i => (i.zero, i.size, i.bytes)) = some (some (.string ByteArray.empty), 1, 16) := by kernel_rfl
theorem prt_no {t : Trn} {c : Int} (h : chkF t = c) (h0 : c ≠ 0) : prtT t = ([], c) := by unfold prtT; rw [h, if_neg h0]
theorem prt_yes {t : Trn} (h : chkF t = 0) : prtT t = (Lib.join (wordsT t) [32], 0) := by unfold prtT; rw [if_pos h]
theorem checkC {t : Trn} {c : Int} (h : chkF t = c) (w : World) (hn : t.name.length ≤ maxLen) : Calls Tryd.prog 12 #[trnA t] w fun e w' => e = .returned (.int .i64 c) ∧ Below w.heap.size w w' := h ▸ check_any t w hn
theorem rcheckC {t : Trn} {c : Int} (h : chkF t = c) (w : World) (hn : t.name.length ≤ maxLen) : Calls Tryd.prog 13 #[trnA t] w fun e w' => e = .returned (.int .i64 c) ∧ Below w.heap.size w w' := h ▸ rcheck_any t w hn
theorem chk_i64 {t : Trn} (h : chkF t = 0) : ∀ n ∈ t.id :: restN t, -9223372036854775808 ≤ n ∧ n ≤ 9223372036854775807 := by
  obtain ⟨h0, h1, h2, h3, h4, h5, h6, h7, h8, h9⟩ := chk_ok h
  intro n hn
  simp only [restN, List.mem_cons, List.not_mem_nil, or_false] at hn
  rcases hn with rfl | rfl | rfl | rfl | rfl | rfl | rfl | rfl | rfl <;> omega
/-- The words so far. -/
def pw (t : Trn) (k : Nat) : List (List UInt8) := trainW :: Lib.itoa t.id :: t.name :: ((restN t).take k).map Lib.itoa
theorem pw_succ (t : Trn) (k : Nat) (h : k < (restN t).length) : pw t (k + 1) = pw t k ++ [Lib.itoa (restN t)[k]] := by
  unfold pw
  rw [List.take_succ_eq_append_getElem h, List.map_append]
  rfl
theorem pw_len (t : Trn) (k : Nat) (h : k ≤ 8) : (pw t k).length = k + 3 := by
  unfold pw
  simp only [List.length_cons, List.length_map, List.length_take]
  have : (restN t).length = 8 := rfl
  omega
theorem pw_all (t : Trn) : pw t 8 = wordsT t := rfl
set_option maxRecDepth 100000 in
set_option maxHeartbeats 8000000 in
theorem print_any (t : Trn) (w : World) (E : Env w) (hn : t.name.length ≤ maxLen) :
    Calls Tryd.prog 10 #[trnA t] w fun e w' => e = .returned (.tuple #[.string (bs (prtT t).1), .int .i64 (prtT t).2]) ∧ Below w.heap.size w w' := by
  have hts := TS.new w t w.heap.size rfl
  obtain ⟨c, hc⟩ : ∃ c, chkF t = c := ⟨_, rfl⟩
  by_cases h0 : c = 0
  · subst h0
    have HC := Lib.hid (checkC hc)
    have HP := Lib.hid (prt_yes hc)
    have HG := Lib.hid (prt_par hc).2
    have hI := chk_i64 hc
    have hwl := fun x hx => (wordB_len ((goodL_iff.1 (wordsT_good hc)).2 x hx)).2
    have HWL := Lib.hid hwl
    have HI := Lib.hid hI
    have hid := hI t.id (by simp)
    obtain ⟨i0, hi0, hz0, hz1, hz2⟩ := info_parts infoStrT
    have hnl : t.name.length ≤ 64 := hwl t.name (by simp [wordsT])
    clear hwl hI hc
    unfold trnA at HC ⊢
    go_enter Tryd.func10, Tryd.ntmps10
    go_wp2_with fail
    refine (HC.out _ hn).mono ?_
    rintro e w1 ⟨rfl, hb1⟩
    have hts1 := hts.now hb1
    clear hts hb1
    generalize hgg : w.heap.size = g at hts1
    go_wp2_with fail
    go_region_held3 (fun w' => w'.cell? ⟨g, 0, none⟩ = some (.int .i64 t.id) ∧ w'.cell? ⟨g, 1, none⟩ = some (.string (bs t.name)) ∧ w'.cell? ⟨g, 2, none⟩ = some (.int .i64 t.len) ∧ w'.cell? ⟨g, 3, none⟩ = some (.int .i64 t.spd) ∧ w'.cell? ⟨g, 4, none⟩ = some (.int .i64 t.acc) ∧ w'.cell? ⟨g, 5, none⟩ = some (.int .i64 t.srv) ∧ w'.cell? ⟨g, 6, none⟩ = some (.int .i64 t.emg) ∧ w'.cell? ⟨g, 7, none⟩ = some (.int .i64 t.dly) ∧ w'.cell? ⟨g, 8, none⟩ = some (.int .i64 t.cst) ∧ w'.cell? ⟨g, 9, none⟩ = some (.int .i64 t.rate) ∧ (Below w.heap.size w w' ∧ g < w'.heap.size)) (first | assumption | exact ts_drew ‹_› | (refine TS.now ‹_› ?_; first | assumption | exact (Below.refl _ _).alloc (Nat.le_refl _) _)) (first | (go_at_call 23; refine (format_any t.id _ (E.now (TS.bel (by assumption))) hid.1 hid.2).mono ?_; rintro e wq ⟨rfl, hq⟩))
    all_goals (go_wp2_with fail)
    have hB1 := hts1.bel
    have hBq : Below w.heap.size w wq := bel_then hB1.drew hB1.size hq
    have hszq := hBq.size
    have hb2 := hBq.alloc hszq (.cells #[.string { data := #[116, 114, 97, 105, 110] }, .string (bs (Lib.itoa t.id)), .string (bs t.name)] 9)
    have hb3 := hb2.alloc hb2.size (.cells #[.int .i64 t.len, .int .i64 t.spd, .int .i64 t.acc, .int .i64 t.srv, .int .i64 t.emg, .int .i64 t.dly, .int .i64 t.cst, .int .i64 t.rate] 3)
    have hk1 : Blk ((wq.alloc (.cells #[.string { data := #[116, 114, 97, 105, 110] }, .string (bs (Lib.itoa t.id)), .string (bs t.name)] 9)).alloc (.cells #[.int .i64 t.len, .int .i64 t.spd, .int .i64 t.acc, .int .i64 t.srv, .int .i64 t.emg, .int .i64 t.dly, .int .i64 t.cst, .int .i64 t.rate] 3)) wq.heap.size 9 #[.string (bs trainW), .string (bs (Lib.itoa t.id)), .string (bs t.name)] := (Blk.new wq _ _ _ rfl).alloc _
    have hk2 : Blk ((wq.alloc (.cells #[.string { data := #[116, 114, 97, 105, 110] }, .string (bs (Lib.itoa t.id)), .string (bs t.name)] 9)).alloc (.cells #[.int .i64 t.len, .int .i64 t.spd, .int .i64 t.acc, .int .i64 t.srv, .int .i64 t.emg, .int .i64 t.dly, .int .i64 t.cst, .int .i64 t.rate] 3)) (wq.heap.size + 1) 3 ((restN t).map (Value.int .i64)).toArray := Blk.new _ _ _ _ (by simp)
    have hs0 : SRow ((wq.alloc (.cells #[.string { data := #[116, 114, 97, 105, 110] }, .string (bs (Lib.itoa t.id)), .string (bs t.name)] 9)).alloc (.cells #[.int .i64 t.len, .int .i64 t.spd, .int .i64 t.acc, .int .i64 t.srv, .int .i64 t.emg, .int .i64 t.dly, .int .i64 t.cst, .int .i64 t.rate] 3)) 9 wq.heap.size 3 (pw t 0) := ⟨_, hk1, rfl, rfl, by simp [pw], by unfold maxLen; omega⟩
    generalize (wq.alloc (.cells #[.string { data := #[116, 114, 97, 105, 110] }, .string (bs (Lib.itoa t.id)), .string (bs t.name)] 9)).alloc (.cells #[.int .i64 t.len, .int .i64 t.spd, .int .i64 t.acc, .int .i64 t.srv, .int .i64 t.emg, .int .i64 t.dly, .int .i64 t.cst, .int .i64 t.rate] 3) = w3 at *
    clear hk1 hb2 hts1 hB1 hq hBq
    generalize wq.heap.size = B at *
    go_loopw [5, 37] (fun v i wr => ∃ (k gg cp : Nat), k ≤ 8 ∧ i = .int .i64 k ∧ v = .slice (some ⟨gg, 0, none⟩) (pw t k).length cp ∧ B ≤ gg ∧ SRow wr 9 gg cp (pw t k) ∧ Blk wr (B + 1) 3 ((restN t).map (Value.int .i64)).toArray ∧ Below w.heap.size w wr) (fun _ i _ => 8 - (intOf i).toNat)
    case atStart => exact ⟨0, B, 3, by omega, rfl, rfl, Nat.le_refl _, hs0, hk2, hb3⟩
    case round =>
      obtain ⟨k, gg, cp, hk, rfl, rfl, hgg2, hrow, hblk, hbr⟩ := hrel
      have hsz := hbr.size
      have hcp := hrow.cap_le
      have hpl := pw_len t k hk
      by_cases hlt : k < 8
      · have hx : wr.cell? ⟨B + 1, k, none⟩ = some (.int .i64 ((restN t)[k]'hlt)) := by
          rw [hblk.cell]
          have h8 : k < (restN t).length := hlt
          simp [h8]
          rfl
        have hni := HI.out ((restN t)[k]'hlt) (List.mem_cons_of_mem _ (List.getElem_mem hlt))
        have HN := Lib.hid (pw_succ t k hlt)
        have hil := itoaT_len _ hni
        generalize (restN t)[k]'hlt = n at *
        have hki : (k : Int) < 8 := by omega
        rw [hpl]
        generalize pw t k = ws at *
        go_wp2_with fail
        refine (format_any n _ (E.now hbr) hni.1 hni.2).mono ?_
        rintro e w2 ⟨rfl, hb2⟩
        have hB2 := bel_then hbr hsz hb2
        have hrow2 := hrow.now hb2
        have hblk2 := hblk.now hb2
        have hgl := hrow2.lt
        have hal : Below w2.heap.size w2 (w2.alloc (.cells #[.string (bs (Lib.itoa n))] 9)) := (Below.refl _ _).alloc (Nat.le_refl _) _
        have hown := (hrow2.now hal).own hgg2
        have hblk3 := hblk2.now hal
        have hB3 := hB2.alloc hB2.size (.cells #[.string (bs (Lib.itoa n))] 9)
        rw [hpl] at hown
        go_wp2_with (at_builtin; go_loud (refine wpList_append_own _ rfl _ _ 46 rfl B 9 i0 _ 1 16 Tryd.underlying46 hi0 hz0 hz1 hz2 rfl (by decide) _ (k + 3) _ rfl hown ⟨w2.heap.size, 0, none⟩ 1 1 [.string (bs (Lib.itoa n))] rfl rfl (fun j u hj => by (match j, hj with | 0, hj => (simp at hj; subst hj; exact World.cell?_alloc_at _ _ _ _ rfl) | j + 1, hj => simp at hj)) (fun u hu => by (simp at hu; subst hu; rfl)) (by unfold maxLen; omega) (by omega) (by simp; omega) ?_); intro v' w5 hown5 hgr5 _; obtain ⟨g5, cap5, rfl, hg5, hrow5⟩ := SRow.of_own (l := ws ++ [Lib.itoa n]) (by simpa [hpl] using hown5) (by simp))
        have hfr := frm_of hown hgr5
        have hblk5 := hfr.blk hblk3 (by decide)
        have hB5 := hfr.keeps (by omega) (by simp; omega) hB3
        go_roundw
        case rel => exact ⟨k + 1, g5, cap5, by omega, by go_num, by rw [HN.out, List.length_append, hpl]; rfl, hg5, by rw [HN.out]; exact hrow5, hblk5, hB5⟩
        case measure => simp [intOf]; omega
      · obtain rfl : k = 8 := by omega
        have hrd := hrow.rds (fun x hx => by have := HWL.out x hx; unfold maxLen; omega)
        have hj := join_any (pw t 8) [32] (some ⟨gg, 0, none⟩) cp wr hrd (by omega) hcp.1 (by have := HG.out; rw [pw_all]; omega)
        go_wp2_with fail
        refine hj.mono ?_
        rintro e w2 ⟨rfl, hb2⟩
        go_wp2_with fail
        go_ret2
        exact ⟨by rw [HP.out, ← pw_all]; rfl, bel_then hbr hsz hb2⟩
  · have HC := Lib.hid (checkC hc)
    have HP := Lib.hid (prt_no hc h0)
    have hcb : (c != 0) = true := by simpa using h0
    clear hc h0
    unfold trnA at HC ⊢
    go_enter Tryd.func10, Tryd.ntmps10
    go_wp2_with fail
    refine (HC.out _ hn).mono ?_
    rintro e w1 ⟨rfl, hb1⟩
    go_wp2_with fail
    go_ret2
    exact ⟨by rw [HP.out]; rfl, (hts.now hb1).bel⟩
end Go.Proofs.YtfmfadafpbnjoaaDoor
