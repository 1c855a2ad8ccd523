/- The walks of Name, of its reference, and of the comparisons of lists. -/
import Derived.Test.YtopoknocfoiiaaaGreatDoorWdWalksC
import Derived.Deep.QuietTactic
import Derived.BigQuiet
namespace Go.Proofs.YtopoknocfoiiaaaGreatDoor
set_option linter.unusedVariables false
set_option linter.unusedSimpArgs false
open Go.RowKit
attribute [local go_sem] bs_size bs_get bs_append bs_extract bs_toList
theorem nmB_iff {c : UInt8} : nmB c = true ↔ (97 ≤ c.toNat ∧ c.toNat ≤ 122) ∨ (48 ≤ c.toNat ∧ c.toNat ≤ 57) ∨ c.toNat = 95 := by
  unfold nmB; simp only [Bool.or_eq_true, Bool.and_eq_true, decide_eq_true_eq]
theorem loB_iff {c : UInt8} : loB c = true ↔ 97 ≤ c.toNat ∧ c.toNat ≤ 122 := by
  unfold loB; simp only [Bool.and_eq_true, decide_eq_true_eq]
theorem nameB_all {s : List UInt8} (h : s.all nmB = false) : nameB s = false := by unfold nameB; rw [h]; simp
theorem nameB_cons (a : UInt8) (t : List UInt8) : nameB (a :: t) = (decide (t.length + 1 ≤ 12) && (loB a && (a :: t).all nmB)) := by
  unfold nameB
  have : decide (1 ≤ (a :: t).length) = true := by simp
  rw [this, Bool.true_and]
  simp only [List.length_cons, List.head?_cons, Option.map_some, Option.getD_some]
set_option maxRecDepth 100000 in
set_option maxHeartbeats 4000000 in
theorem name_any (s : List UInt8) (w : World) (hs : s.length ≤ maxLen) :
    Calls Tryz.prog 54 #[.string (bs s)] w fun e w' => e = .returned (.bool (nameB s)) ∧ Below w.heap.size w w' := by
  unfold maxLen at hs
  by_cases hem : s = []
  · subst hem
    go_enter Tryz.func54, Tryz.ntmps54
    go_wp2_with fail
    go_ret
    exact ⟨rfl, Below.refl _ _⟩
  · have h0 : 0 < s.length := List.length_pos_iff.2 hem
    have hne : s.isEmpty = false := by simp [hem]
    have hne2 : (s == []) = false := by simp [hem]
    have HN : Hid (nameB s = (decide (s.length ≤ 12) && (loB s[0] && s.all nmB))) := Lib.hid (by
      cases s with
      | nil => exact absurd rfl hem
      | cons a t => exact nameB_cons a t)
    have HL : Hid (loB s[0] = (decide (97 ≤ s[0].toNat) && decide (s[0].toNat ≤ 122))) := Lib.hid rfl
    clear hem
    generalize hc0 : s[0].toNat = c0 at HL
    by_cases hg : s.length ≤ 12 ∧ 97 ≤ c0 ∧ c0 ≤ 122
    · obtain ⟨g1, g2, g3⟩ := hg
      have HF : Hid (nameB s = s.all nmB) := Lib.hid (by rw [HN.out, HL.out, decide_eq_true g1, decide_eq_true g2, decide_eq_true g3]; rfl)
      clear HN HL
      go_enter Tryz.func54, Tryz.ntmps54
      go_wp2_with fail
      clear g2 g3 hne hne2 hc0
      go_loopw [] (fun w' => ∃ pos : Nat, w' = w.iter (bs s) pos ∧ pos ≤ s.length ∧ Hid ((s.take pos).all nmB = true)) (fun w' => s.length - w'.iterPos w.heap.size)
      case atStart => exact ⟨0, rfl, Nat.zero_le _, Lib.hid (by simp)⟩
      case round =>
        obtain ⟨pos, rfl, hp, HA⟩ := hrel
        have hbel : ∀ q, Below w.heap.size w (w.iter (bs s) q) := fun q => (Below.refl _ _).alloc (Nat.le_refl _) _
        by_cases hlt : pos < s.length
        · have hsz : pos < (bs s).size := by rw [bs_size]; exact hlt
          have HC : Hid (nmB s[pos] = true ↔ (97 ≤ s[pos].toNat ∧ s[pos].toNat ≤ 122) ∨ (48 ≤ s[pos].toNat ∧ s[pos].toNat ≤ 57) ∨ s[pos].toNat = 95) := Lib.hid nmB_iff
          by_cases ha : s[pos].toNat < 128
          · have hnx : ∀ ty, (Instr.next (.pointer (some ⟨w.heap.size, 0, none⟩)) true ty).run Tryz.prog (w.iter (bs s) pos) = .ok (.tuple #[.bool true, .int .i64 pos, .int .i32 (s[pos].toNat)]) (w.iter (bs s) (pos + 1)) := fun ty => run_next_ascii w (bs s) pos ty hsz ha
            generalize s[pos].toNat = c at hnx HC ha
            by_cases hok : (97 ≤ c ∧ c ≤ 122) ∨ (48 ≤ c ∧ c ≤ 57) ∨ c = 95
            · have HK : Hid (nmB s[pos] = true) := Lib.hid (HC.out.2 hok)
              by_cases h95 : c = 95
              · subst h95
                go_wp2
                go_roundw
                case rel => exact ⟨pos + 1, rfl, by omega, Lib.hid (by rw [all_snoc hlt, HA.out, Bool.true_and]; exact HK.out)⟩
                case measure => simp; omega
              · have h95' : ((c : Int) == 95) = false := by simp; omega
                go_wp2
                all_goals first
                  | (exfalso; first | omega | (simp_all; done) | (simp_all; omega))
                  | (go_roundw
                     case rel => exact ⟨pos + 1, rfl, by omega, Lib.hid (by rw [all_snoc hlt, HA.out, Bool.true_and]; exact HK.out)⟩
                     case measure => simp; omega)
            · have HK : Hid (nmB s[pos] = false) := Lib.hid (by rw [Bool.eq_false_iff]; exact fun h => hok (HC.out.1 h))
              have hF : nameB s = false := nameB_all (not_all hlt HK.out)
              have HF2 := Lib.hid hF
              clear hF
              have h95' : ((c : Int) == 95) = false := by simp; omega
              go_wp2
              all_goals first
                | (exfalso; first | omega | (simp_all; done) | (simp_all; omega))
                | (go_ret; exact ⟨ret_b HF2.out.symm, hbel _⟩)
          · have hd := decode_high (bs s) pos hsz (by show 128 ≤ s[pos].toNat; omega)
            have hd2 := decode_le (bs s) pos
            have hnx : ∀ ty, (Instr.next (.pointer (some ⟨w.heap.size, 0, none⟩)) true ty).run Tryz.prog (w.iter (bs s) pos) = _ := fun ty => run_next_any w (bs s) pos ty hsz
            generalize (Utf8.decode (bs s) pos).1 = d at hnx hd hd2
            generalize (Utf8.decode (bs s) pos).2 = q at hnx hd
            have HK : Hid (nmB s[pos] = false) := Lib.hid (by rw [Bool.eq_false_iff]; intro h; have := HC.out.1 h; omega)
            have hF : nameB s = false := nameB_all (not_all hlt HK.out)
            have HF2 := Lib.hid hF
            clear hF ha
            obtain ⟨hd, _⟩ := hd
            have c4 : ((d : Int) == 95) = false := by simp; omega
            go_wp2
            all_goals first
              | (exfalso; first | omega | (simp_all; done) | (simp_all; omega))
              | (go_ret; exact ⟨ret_b HF2.out.symm, hbel _⟩)
        · have hnx : ∀ ty, (Instr.next (.pointer (some ⟨w.heap.size, 0, none⟩)) true ty).run Tryz.prog (w.iter (bs s) pos) = _ := fun ty => run_next_end w (bs s) pos ty (by rw [bs_size]; exact hlt)
          have hF : nameB s = true := by rw [HF.out, ← take_all s pos hlt]; exact HA.out
          have HF2 := Lib.hid hF
          clear hF
          go_wp2
          go_ret
          exact ⟨ret_b HF2.out.symm, hbel _⟩
    · have hF : nameB s = false := by
        rw [HN.out, HL.out, Bool.eq_false_iff]
        simp only [ne_eq, Bool.and_eq_true, decide_eq_true_eq]
        intro h
        exact hg ⟨h.1, h.2.1⟩
      have HF2 := Lib.hid hF
      clear hF HN HL
      go_enter Tryz.func54, Tryz.ntmps54
      go_wp2_with fail
      all_goals first
        | (go_ret; exact ⟨ret_b HF2.out.symm, Below.refl _ _⟩)
        | (exfalso; first | omega | (simp_all; done) | (simp_all; omega))
set_option maxRecDepth 100000 in
set_option maxHeartbeats 4000000 in
theorem rname_any (s : List UInt8) (w : World) (hs : s.length ≤ maxLen) :
    Calls Tryz.prog 64 #[.string (bs s)] w fun e w' => e = .returned (.bool (nameB s)) ∧ w = w' := by
  unfold maxLen at hs
  go_enter Tryz.func64, Tryz.ntmps64
  go_wp2_with fail
  go_loop [3] (fun i => ∃ k : Nat, k ≤ s.length ∧ i = .int .i64 k ∧ Hid ((s.take k).all nmB = true) ∧ Hid (0 < k → (s.head?.map loB).getD false = true)) (fun i => s.length - (intOf i).toNat)
  case atStart => exact ⟨0, Nat.zero_le _, rfl, Lib.hid (by simp), Lib.hid (fun h => by omega)⟩
  case round =>
    obtain ⟨k, hk, rfl, HA, HH⟩ := hrel
    by_cases hlt : k < s.length
    · have HC : Hid (nmB s[k] = true ↔ (97 ≤ s[k].toNat ∧ s[k].toNat ≤ 122) ∨ (48 ≤ s[k].toNat ∧ s[k].toNat ≤ 57) ∨ s[k].toNat = 95) := Lib.hid nmB_iff
      have HL : Hid (loB s[k] = true ↔ 97 ≤ s[k].toNat ∧ s[k].toNat ≤ 122) := Lib.hid loB_iff
      have HZ : Hid (k = 0 → (s.head?.map loB).getD false = loB s[k]) := Lib.hid (fun h => by subst h; cases s with | nil => simp at hlt | cons a t => rfl)
      generalize hcc : s[k].toNat = c at HC HL
      have hb : c < 256 := by rw [← hcc]; exact s[k].toNat_lt
      by_cases hok : (97 ≤ c ∧ c ≤ 122) ∨ (0 < k ∧ ((48 ≤ c ∧ c ≤ 57) ∨ c = 95))
      · have HN : Hid ((s.take (k + 1)).all nmB = true ∧ (0 < k + 1 → (s.head?.map loB).getD false = true)) := Lib.hid ⟨by
          rw [all_snoc hlt, HA.out, HC.out.2 (by omega)]; rfl, fun _ => by
          rcases Nat.eq_zero_or_pos k with h | h
          · rw [HZ.out h]; exact HL.out.2 (by omega)
          · exact HH.out h⟩
        by_cases h1 : 97 ≤ c ∧ c ≤ 122
        · obtain ⟨h1, h2⟩ := h1
          clear hok
          go_wp2_with fail
          all_goals first
            | (go_round
               case rel => exact ⟨k + 1, by omega, by go_num, Lib.hid HN.out.1, Lib.hid HN.out.2⟩
               case measure => simp [intOf]; omega)
            | (exfalso; first | omega | (simp_all; done) | (simp_all; omega))
        · have hk0 : ((k : Int) == 0) = false := by simp; omega
          have h95 : ((c : Int) == 95) = decide (c = 95) := by rw [Bool.eq_iff_iff]; simp; omega
          by_cases h3 : c = 95
          · subst h3
            clear hok h1 h95
            go_wp2_with fail
            all_goals first
              | (go_round
                 case rel => exact ⟨k + 1, by omega, by go_num, Lib.hid HN.out.1, Lib.hid HN.out.2⟩
                 case measure => simp [intOf]; omega)
              | (exfalso; first | omega | (simp_all; done) | (simp_all; omega))
          · have h4 : 48 ≤ c := by omega
            have h5 : c ≤ 57 := by omega
            clear hok h1 h95 h3
            go_wp2_with fail
            all_goals first
              | (go_round
                 case rel => exact ⟨k + 1, by omega, by go_num, Lib.hid HN.out.1, Lib.hid HN.out.2⟩
                 case measure => simp [intOf]; omega)
              | (exfalso; first | omega | (simp_all; done) | (simp_all; omega))
      · have hF : nameB s = false := by
          rcases Nat.eq_zero_or_pos k with h | h
          · have : (s.head?.map loB).getD false = false := by rw [HZ.out h, Bool.eq_false_iff]; intro h2; have := HL.out.1 h2; omega
            unfold nameB; rw [this]; simp
          · exact nameB_all (not_all hlt (by rw [Bool.eq_false_iff]; intro h2; have := HC.out.1 h2; omega))
        have HF2 := Lib.hid hF
        clear hF
        by_cases h0 : k = 0
        · subst h0
          have hok0 : ¬ (97 ≤ c ∧ c ≤ 122) := fun h => hok (Or.inl h)
          clear hok
          by_cases h95 : c = 95
          · subst h95
            go_wp2_with fail
            all_goals (go_ret; exact ⟨ret_b HF2.out.symm, rfl⟩)
          · have h95' : ((c : Int) == 95) = false := by simp; omega
            go_wp2_with fail
            all_goals first
              | (go_ret; exact ⟨ret_b HF2.out.symm, rfl⟩)
              | (exfalso; first | omega | (simp_all; done) | (simp_all; omega))
        · have hk0 : ((k : Int) == 0) = false := by simp; omega
          have h95 : ((c : Int) == 95) = false := by simp; omega
          go_wp2_with fail
          all_goals first
            | (go_ret; exact ⟨ret_b HF2.out.symm, rfl⟩)
            | (exfalso; first | omega | (simp_all; done) | (simp_all; omega))
    · have HF : Hid (nameB s = (decide (1 ≤ s.length) && decide (s.length ≤ 12))) := Lib.hid (by
        have h1 := HA.out
        rw [take_all s k hlt] at h1
        unfold nameB
        rw [h1]
        rcases Nat.eq_zero_or_pos k with h | h
        · have : decide (1 ≤ s.length) = false := by rw [decide_eq_false_iff_not]; omega
          rw [this]; simp
        · rw [HH.out h]; simp)
      go_wp2_with fail
      all_goals (go_ret; refine ⟨ret_b ?_, rfl⟩; rw [HF.out, Bool.eq_iff_iff]; simp only [Bool.and_eq_true, decide_eq_true_eq, Bool.false_eq_true, false_iff]; omega)
/-! ### Lists compared -/
/-- Some draws later. -/
def Dr (w w' : World) : Prop := ∃ n, w' = w.drewN n
theorem Dr.refl (w : World) : Dr w w := ⟨0, rfl⟩
theorem Dr.of (w : World) (n : Nat) : Dr w (w.drewN n) := ⟨n, rfl⟩
theorem Dr.drewN {w w1 : World} (h : Dr w w1) (n : Nat) : Dr w (w1.drewN n) := by
  obtain ⟨k, rfl⟩ := h
  exact ⟨k + n, by rw [World.drewN_drewN]⟩
theorem Dr.trans {w w1 w2 : World} (h : Dr w w1) (h2 : Dr w1 w2) : Dr w w2 := by
  obtain ⟨n, rfl⟩ := h2
  exact h.drewN n
theorem Dr.below {w w' : World} (h : Dr w w') : Below w.heap.size w w' := by
  obtain ⟨n, rfl⟩ := h
  exact Below.drewN (Below.refl _ _) n
theorem Dr.rds {α : Type} {c : Cod α} {w w' : World} {A : Option Addr} {l : List α} (h : Dr w w') (hr : RdS c w (Lt w) A l) : RdS c w' (Lt w') A l := hr.now h.below
theorem cI_cell {w : World} {S : Nat → Prop} {u : Value} {n : Int} (h : cI.rd w S [u] n) : u = .int .i64 n ∧ I64n n := ⟨(List.cons.inj h.1).1, h.2⟩
theorem cS_cell {w : World} {S : Nat → Prop} {u : Value} {l : List UInt8} (h : cS.rd w S [u] l) : u = .string (bs l) ∧ l.length ≤ maxLen := ⟨(List.cons.inj h.1).1, h.2⟩
theorem cLS_cell {α : Type} {c : Cod α} {w : World} {S : Nat → Prop} {u : Value} {l : List α} (h : (cL c).rd w S [u] l) : ∃ A cap, u = .slice A l.length cap ∧ l.length ≤ maxLen ∧ RdS c w S A l := by
  obtain ⟨A, cap, h1, h2, h3⟩ := h
  exact ⟨A, cap, (List.cons.inj h1).1, h2.1, h3⟩
theorem cLS_cell2 {α : Type} {c : Cod α} {w : World} {S : Nat → Prop} {u : Value} {l : List α} (h : (cL c).rd w S [u] l) : ∃ A cap, u = .slice A l.length cap ∧ (l.length ≤ maxLen ∧ l.length ≤ cap) ∧ RdS c w S A l := by
  obtain ⟨A, cap, h1, h2, h3⟩ := h
  exact ⟨A, cap, (List.cons.inj h1).1, h2, h3⟩
theorem take_eq_snoc {α : Type} {a b : List α} {k : Nat} (ha : k < a.length) (hb : k < b.length) (h : a.take k = b.take k) (e : a[k] = b[k]) : a.take (k + 1) = b.take (k + 1) := by
  rw [List.take_succ_eq_append_getElem ha, List.take_succ_eq_append_getElem hb, h, e]
theorem ne_of_at {α : Type} {a b : List α} {k : Nat} (ha : k < a.length) (hb : k < b.length) (e : a[k] ≠ b[k]) : a ≠ b := by
  rintro rfl
  exact e rfl
theorem eq_of_take {α : Type} {a b : List α} {k : Nat} (ha : ¬ k < a.length) (hl : a.length = b.length) (h : a.take k = b.take k) : a = b := by
  rwa [List.take_of_length_le (by omega), List.take_of_length_le (by omega)] at h
set_option maxRecDepth 100000 in
set_option maxHeartbeats 2000000 in
theorem sameLine_any (a b : List (List UInt8)) (A B : Option Addr) (ca cb : Nat) (w : World) (ha : RdS cS w (Lt w) A a) (hb : RdS cS w (Lt w) B b) (la : a.length ≤ maxLen) (lb : b.length ≤ maxLen) :
    Calls Tryz.prog 24 #[.slice A a.length ca, .slice B b.length cb] w fun e w' => e = .returned (.bool (decide (a = b))) ∧ Dr w w' := by
  unfold maxLen at la lb
  by_cases hl : a.length = b.length
  · have hn : ((a.length : Int) != (b.length : Int)) = false := by simp [hl]
    have HL := Lib.hid hl
    clear hl
    obtain ⟨p, off, hA, hca⟩ := ha.pick rfl
    obtain ⟨p', off', hB, hcb⟩ := hb.pick rfl
    have HA := Lib.hid hA
    have HB := Lib.hid hB
    have HCA := Lib.hid hca
    have HCB := Lib.hid hcb
    clear hA hB hca hcb ha hb
    go_enter Tryz.func24, Tryz.ntmps24
    go_wp2_with fail
    go_loopw [5] (fun i wr => ∃ k : Nat, k ≤ a.length ∧ i = .int .i64 k ∧ Hid (a.take k = b.take k) ∧ Dr w wr) (fun i _ => a.length - (intOf i).toNat)
    case atStart => exact ⟨0, Nat.zero_le _, rfl, Lib.hid (by simp), Dr.refl _⟩
    case round =>
      obtain ⟨k, hk, rfl, HK, hdr⟩ := hrel
      by_cases hlt : k < a.length
      · have hltb : k < b.length := by have := HL.out; omega
        obtain ⟨rfl, _⟩ := HA.out (by omega)
        obtain ⟨rfl, _⟩ := HB.out (by omega)
        obtain ⟨u, hu, x0⟩ := HCA.out k _ (List.getElem?_eq_getElem hlt)
        obtain ⟨v, hv, y0⟩ := HCB.out k _ (List.getElem?_eq_getElem hltb)
        obtain ⟨rfl, hx⟩ := cS_cell hu
        obtain ⟨rfl, hy⟩ := cS_cell hv
        clear hu hv
        obtain ⟨q, rfl⟩ := hdr
        have hki : (k : Int) < (a.length : Int) := by omega
        have hki2 : (k : Int) < (b.length : Int) := by omega
        by_cases he : a[k] = b[k]
        · have HE := Lib.hid (take_eq_snoc hlt hltb HK.out he)
          rw [← he] at y0 hy
          clear he
          generalize a[k] = x at x0 y0
          skip
          go_wp2_with fail
          go_quiet (fail)
          go_wp2_with fail
          go_roundw
          case rel => exact ⟨k + 1, by omega, by go_num, HE, by first | exact Dr.of _ _ | exact (Dr.of _ _).drewN _⟩
          case measure => simp [intOf]; omega
        · have HE := Lib.hid (ne_of_at hlt hltb he)
          generalize a[k] = x at *
          generalize b[k] = y at *
          have he2 : (x == y) = false := by simp [he]
          clear he
          go_wp2_with fail
          go_quiet (fail)
          go_wp2_with fail
          go_ret
          exact ⟨ret_b (decide_eq_false HE.out).symm, by first | exact Dr.of _ _ | exact (Dr.of _ _).drewN _⟩
      · have HE := Lib.hid (eq_of_take hlt HL.out HK.out)
        go_wp2_with fail
        go_ret
        exact ⟨ret_b (decide_eq_true HE.out).symm, hdr⟩
  · have hn : ((a.length : Int) != (b.length : Int)) = true := by simp; omega
    have hne : a ≠ b := fun e => hl (by rw [e])
    have HN := Lib.hid hne
    clear hl hne
    go_enter Tryz.func24, Tryz.ntmps24
    go_wp2_with fail
    go_ret
    exact ⟨ret_b (decide_eq_false HN.out).symm, Dr.refl _⟩
theorem quiet_dr {P : Program} {f : FuncId} {args : Array Value} {w : World} {n : Nat} {v : Value} (h : Calls P f args (w.drewN n) fun e w' => e = .returned v ∧ Dr (w.drewN n) w') : Calls P f args (w.drewN n) fun e w'' => e = .returned v ∧ ∃ m, w'' = w.drewN m :=
  Calls.quiet_of (h.mono fun _ _ ⟨he, m, hm⟩ => ⟨he, m, hm⟩)
end Go.Proofs.YtopoknocfoiiaaaGreatDoor
