/- The walk of settingsRight. -/
import Derived.Test.YtlblfblkallnhaaGreatDoorTbChkB
namespace Go.Proofs.YtlblfblkallnhaaGreatDoor
set_option linter.unusedVariables false
set_option linter.unusedSimpArgs false
open Go.RowKit
attribute [local go_sem] bs_size bs_get bs_append bs_extract bs_toList
attribute [-go_sem] run_equalIn_agg
theorem cell_now {w w' : World} {p : Addr} {u : Value} (h : w.cell? p = some u) (hb : Below w.heap.size w w') : w'.cell? p = some u := (hb.cell (cell_lt h)).trans h
/-- What is known in a round over settings. -/
def SRd (w : World) (v : TabV) (gx : Nat) (x : Stg) (bp op : Nat) (p : Int) (W : World) : Prop :=
  W.cell? ⟨w.heap.size, 0, none⟩ = some (.slice v.A1 v.t.rts.length v.c1) ∧ W.cell? ⟨w.heap.size, 1, none⟩ = some (.slice v.A2 v.t.pts.length v.c2) ∧ W.cell? ⟨w.heap.size, 2, none⟩ = some (.slice v.A3 v.t.homes.length v.c3) ∧ W.cell? ⟨w.heap.size, 3, none⟩ = some (.int .i64 v.t.nsec) ∧ W.cell? ⟨w.heap.size, 4, none⟩ = some (.int .i64 v.t.nsig) ∧ W.cell? ⟨gx, 0, none⟩ = some (.int .i64 x.el) ∧ W.cell? ⟨bp, op, none⟩ = some (.int .i64 p) ∧ (Bx w W v ∧ Blk W gx 99 #[.int .i64 x.el, .int .i64 x.pos])
section
variable {w W W' : World} {v : TabV} {gx bp op : Nat} {x : Stg} {p : Int}
theorem SRd.mk (h : Bx w W v) (hg : Blk W gx 99 #[.int .i64 x.el, .int .i64 x.pos]) (hp : W.cell? ⟨bp, op, none⟩ = some (.int .i64 p)) : SRd w v gx x bp op p W := ⟨h.x0, h.x1, h.x2, h.x3, h.x4, hg.cell 0, hp, h, hg⟩
theorem SRd.all (h : SRd w v gx x bp op p W) : Bx w W v ∧ Blk W gx 99 #[.int .i64 x.el, .int .i64 x.pos] := h.2.2.2.2.2.2.2
theorem SRd.now (h : SRd w v gx x bp op p W) (hb : Below W.heap.size W W') : SRd w v gx x bp op p W' := SRd.mk (h.all.1.now hb) (h.all.2.now hb) (cell_now h.2.2.2.2.2.2.1 hb)
end
theorem tindexC (v : TabV) (x : Int) (b : Bool) (hb : decide (x ∉ v.t.pts) = b) (w : World) (hr : TvR w v) : Calls Tryz.prog 74 #[tvA v, .int .i64 x] w fun e w' => (∃ n : Int, e = .returned (.int .i64 n) ∧ decide (n < 0) = b) ∧ Below w.heap.size w w' := (tindex_any v x w hr).mono fun _ _ ⟨⟨n, h1, h2⟩, h3⟩ => ⟨⟨n, h1, by rw [← hb]; exact decide_eq_decide.2 h2⟩, h3⟩
theorem st_no1 {t : Tab} {l : List Stg} {k j : Nat} {x p : Stg} (hk : k = j + 1) (h1 : l.getD k zG = x) (h2 : l.getD j zG = p) (h : x.el ≤ p.el) : stB t l k = false := by
  subst hk
  unfold stB
  rw [h1, Nat.add_sub_cancel, h2, decide_eq_false (show ¬ j + 1 = 0 by omega), decide_eq_false (show ¬ p.el < x.el by omega)]; simp
theorem st_no2 {t : Tab} {l : List Stg} {k : Nat} {x : Stg} (h1 : l.getD k zG = x) (h : x.el ∉ t.pts) : stB t l k = false := by unfold stB; rw [h1, decide_eq_false h]; rfl
theorem st_no3 {t : Tab} {l : List Stg} {k : Nat} {x : Stg} (h1 : l.getD k zG = x) (h : x.pos ≠ 1) (h' : x.pos ≠ 2) : stB t l k = false := by unfold stB; rw [h1, decide_eq_false h, decide_eq_false h']; simp
theorem st_yes0 {t : Tab} {l : List Stg} {k : Nat} {x : Stg} (hk : k = 0) (h1 : l.getD k zG = x) (h : x.el ∈ t.pts) (h' : x.pos = 1 ∨ x.pos = 2) : stB t l k = true := by
  subst hk
  unfold stB
  rw [h1, decide_eq_true h]
  rcases h' with h' | h' <;> simp [h']
theorem st_yes1 {t : Tab} {l : List Stg} {k j : Nat} {x p : Stg} (hk : k = j + 1) (h1 : l.getD k zG = x) (h2 : l.getD j zG = p) (h : x.el ∈ t.pts) (h' : x.pos = 1 ∨ x.pos = 2) (h3 : ¬ x.el ≤ p.el) : stB t l k = true := by
  subst hk
  unfold stB
  rw [h1, Nat.add_sub_cancel, h2, decide_eq_true h, decide_eq_true (show p.el < x.el by omega)]
  rcases h' with h' | h' <;> simp [h']
set_option maxRecDepth 100000 in
set_option maxHeartbeats 8000000 in
theorem settingsRight_any (v : TabV) (l : List Stg) (A : Option Addr) (cap : Nat) (w : World) (hr : TvR w v) (hl : RdS cStg w (Lt w) A l) (hn : l.length ≤ maxLen) : Calls Tryz.prog 36 #[tvA v, .slice A l.length cap] w fun e w' => e = .returned (.bool (stsB v.t l)) ∧ Below w.heap.size w w' := by
  have hbx := Bx.new hr
  unfold maxLen at hn
  have HY : Hid (∀ k, k < l.length → stB v.t l k = false → stsB v.t l = false) := Lib.hid fun k hk h => by unfold stsB; rw [range_no hk h]
  have HZ : Hid ((∀ k, k < l.length → stB v.t l k = true) → stsB v.t l = true) := Lib.hid fun h => by unfold stsB; rw [range_yes h]
  have HLR := Lib.hid hl
  clear hl
  unfold tvA
  go_enter Tryz.func36, Tryz.ntmps36
  go_wp2_with fail
  go_loopw [9] (fun n wr => ∃ k : Nat, k ≤ l.length ∧ n = .int .i64 k ∧ Bx w wr v ∧ Hid (∀ j, j < k → stB v.t l j = true)) (fun n _ => l.length - (intOf n).toNat)
  case atStart => exact ⟨0, Nat.zero_le _, rfl, hbx, Lib.hid (fun j hj => absurd hj (Nat.not_lt_zero _))⟩
  case round =>
    obtain ⟨k, hk, rfl, hb, HK⟩ := hrel
    clear hbx
    by_cases hlt : k < l.length
    · have hki : (k : Int) < (l.length : Int) := by omega
      have hl := HLR.out.now hb.bel
      obtain ⟨b, off, hA, lb, -, y0, y1⟩ := hl.elG hlt
      have hba := hb.alloc (.cells #[.int .i64 l[k].el, .int .i64 l[k].pos] 99)
      have hgx : Blk (wr.alloc (.cells #[.int .i64 l[k].el, .int .i64 l[k].pos] 99)) wr.heap.size 99 #[.int .i64 l[k].el, .int .i64 l[k].pos] := Blk.new _ _ _ _ rfl
      have HNO := Lib.hid (HY.out k hlt)
      have HGQ := Lib.hid (getD_at hlt zG)
      have hcase : (k = 0 ∧ SRd w v wr.heap.size l[k] wr.heap.size 0 l[k].el (wr.alloc (.cells #[.int .i64 l[k].el, .int .i64 l[k].pos] 99))) ∨ ∃ j p, k = j + 1 ∧ l.getD j zG = p ∧ SRd w v wr.heap.size l[k] b (off + (k - 1) * 2) p.el (wr.alloc (.cells #[.int .i64 l[k].el, .int .i64 l[k].pos] 99)) := by
        by_cases hk0 : k = 0
        · exact Or.inl ⟨hk0, SRd.mk hba hgx (hgx.cell 0)⟩
        · refine Or.inr ⟨k - 1, l[k - 1], by omega, getD_at (by omega) zG, SRd.mk hba hgx ?_⟩
          obtain ⟨b', off', hA', _, -, u0, _⟩ := (HLR.out.now hba.bel).elG (show k - 1 < l.length by omega)
          obtain ⟨rfl, rfl⟩ : b = b' ∧ off = off' := by rw [hA] at hA'; simp only [Option.some.injEq, Addr.mk.injEq] at hA'; exact ⟨hA'.1, hA'.2.1⟩
          exact u0
      clear hgx HLR
      rw [hA]
      clear hA hl
      generalize l[k] = q at *
      rcases hcase with ⟨hk0, hss⟩ | ⟨j, p, hj, hp, hss⟩
      · have hz0' : decide ((0 : Int) < (k : Int)) = false := by simp; omega
        have hz0n : decide (0 < k) = false := by simp; omega
        have HK0 := Lib.hid hk0
        clear hk0
        go_wp2_with fail
        generalize wr.alloc (.cells #[.int .i64 q.el, .int .i64 q.pos] 99) = W0 at *
        generalize wr.heap.size = gx at *
        clear y0 y1 hb hba lb
        have HIX : Hid (∀ (bb : Bool) W, decide (q.el ∉ v.t.pts) = bb → SRd w v gx q gx 0 q.el W → Calls Tryz.prog 74 #[.agg #[.slice v.A1 v.t.rts.length v.c1, .slice v.A2 v.t.pts.length v.c2, .slice v.A3 v.t.homes.length v.c3, .int .i64 v.t.nsec, .int .i64 v.t.nsig], .int .i64 q.el] W fun e w' => (∃ n : Int, e = .returned (.int .i64 n) ∧ decide (n < 0) = bb) ∧ Below W.heap.size W w') := Lib.hid fun bb W hb h => tindexC v q.el bb hb W h.all.1.rd
        by_cases hin : q.el ∈ v.t.pts
        · have HB1 : Hid (decide (q.el ∉ v.t.pts) = false) := Lib.hid (by simp [hin])
          by_cases hp1 : q.pos = 1
          · have HX := Lib.hid (upto_succ HK.out (st_yes0 HK0.out HGQ.out hin (Or.inl hp1)))
            have t1 : (q.pos != 1) = false := by simp [hp1]
            clear HNO HGQ HK hin hp1
            refine wp_region_held_drew (S := (fun w' => w'.cell? ⟨w.heap.size, 0, none⟩ = some (.slice v.A1 v.t.rts.length v.c1) ∧ w'.cell? ⟨w.heap.size, 1, none⟩ = some (.slice v.A2 v.t.pts.length v.c2) ∧ w'.cell? ⟨w.heap.size, 2, none⟩ = some (.slice v.A3 v.t.homes.length v.c3) ∧ w'.cell? ⟨w.heap.size, 3, none⟩ = some (.int .i64 v.t.nsec) ∧ w'.cell? ⟨w.heap.size, 4, none⟩ = some (.int .i64 v.t.nsig) ∧ w'.cell? ⟨gx, 0, none⟩ = some (.int .i64 q.el) ∧ w'.cell? ⟨gx, 0, none⟩ = some (.int .i64 q.el) ∧ (Bx w w' v ∧ Blk w' gx 99 #[.int .i64 q.el, .int .i64 q.pos]))) (by kernel_rfl) (hss.now (Below.refl _ _).drew) (fun hHeld => ?_)
            refine tkY (i := 0) (oi := .mk _ _ _ _ _ _) (v := ?_) rfl (by kernel_rfl) (fun _ _ _ h => h) (Or.inl ⟨by rfl, ?_⟩) (by assumption) ?_
            rotate_left
            · intro W hSw; (try dsimp only at hSw); go_simp; first | done | with_reducible rfl
            try simp only [Act.put, lsa, lsz, lss]
            refine tkY (i := 1) (oi := .mk _ _ _ _ _ _) (v := ?_) rfl (by kernel_rfl) (fun _ _ _ h => h) (Or.inl ⟨by rfl, ?_⟩) (by assumption) ?_
            rotate_left
            · intro W hSw; (try dsimp only at hSw); go_simp; first | done | with_reducible rfl
            try simp only [Act.put, lsa, lsz, lss]
            refine tkY (i := 2) (oi := .mk _ _ _ _ _ _) (v := ?_) rfl (by kernel_rfl) (fun _ _ _ h => h) (Or.inl ⟨by rfl, ?_⟩) (by assumption) ?_
            rotate_left
            · intro W hSw; (try dsimp only at hSw); go_simp; first | done | with_reducible rfl
            try simp only [Act.put, lsa, lsz, lss]
            refine tkY (i := 3) (oi := .mk _ _ _ _ _ _) (v := undef) rfl (by kernel_rfl) (fun _ _ _ h => h) (Or.inr ⟨by rfl, rfl⟩) (by assumption) ?_
            try simp only [Act.put, lsa, lsz, lss]
            refine tkY (i := 4) (oi := .mk _ _ _ _ _ _) (v := undef) rfl (by kernel_rfl) (fun _ _ _ h => h) (Or.inr ⟨by rfl, rfl⟩) (by assumption) ?_
            try simp only [Act.put, lsa, lsz, lss]
            refine tkY (i := 5) (oi := .mk _ _ _ _ _ _) (v := undef) rfl (by kernel_rfl) (fun _ _ _ h => h) (Or.inr ⟨by rfl, rfl⟩) (by assumption) ?_
            try simp only [Act.put, lsa, lsz, lss]
            refine tkY (i := 6) (oi := .mk _ _ _ _ _ _) (v := undef) rfl (by kernel_rfl) (fun _ _ _ h => h) (Or.inr ⟨by rfl, rfl⟩) (by assumption) ?_
            try simp only [Act.put, lsa, lsz, lss]
            refine tkY (i := 7) (oi := .mk _ _ _ _ _ _) (v := undef) rfl (by kernel_rfl) (fun _ _ _ h => h) (Or.inr ⟨by rfl, rfl⟩) (by assumption) ?_
            try simp only [Act.put, lsa, lsz, lss]
            refine tkY (i := 8) (oi := .mk _ _ _ _ _ _) (v := undef) rfl (by kernel_rfl) (fun _ _ _ h => h) (Or.inr ⟨by rfl, rfl⟩) (by assumption) ?_
            try simp only [Act.put, lsa, lsz, lss]
            refine tkY (i := 9) (oi := .mk _ _ _ _ _ _) (v := undef) rfl (by kernel_rfl) (fun _ _ _ h => h) (Or.inr ⟨by rfl, rfl⟩) (by assumption) ?_
            try simp only [Act.put, lsa, lsz, lss]
            refine tkY (i := 10) (oi := .mk _ _ _ _ _ _) (v := undef) rfl (by kernel_rfl) (fun _ _ _ h => h) (Or.inr ⟨by rfl, rfl⟩) (by assumption) ?_
            try simp only [Act.put, lsa, lsz, lss]
            refine tkY (i := 11) (oi := .mk _ _ _ _ _ _) (v := undef) rfl (by kernel_rfl) (fun _ _ _ h => h) (Or.inr ⟨by rfl, rfl⟩) (by assumption) ?_
            try simp only [Act.put, lsa, lsz, lss]
            refine tkY (i := 12) (oi := .mk _ _ _ _ _ _) (v := ?_) rfl (by kernel_rfl) (fun _ _ _ h => h) (Or.inl ⟨by rfl, ?_⟩) (by assumption) ?_
            rotate_left
            · intro W hSw; (try dsimp only at hSw); go_simp; first | done | with_reducible rfl
            try simp only [Act.put, lsa, lsz, lss]
            refine tkY (i := 13) (oi := .mk _ _ _ _ _ _) (v := ?_) rfl (by kernel_rfl) (fun _ _ _ h => h) (Or.inl ⟨by rfl, ?_⟩) (by assumption) ?_
            rotate_left
            · intro W hSw; (try dsimp only at hSw); go_simp; first | done | with_reducible rfl
            try simp only [Act.put, lsa, lsz, lss]
            refine tkY (i := 14) (oi := .mk _ _ _ _ _ _) (v := ?_) rfl (by kernel_rfl) (fun _ _ _ h => h) (Or.inl ⟨by rfl, ?_⟩) (by assumption) ?_
            rotate_left
            · intro W hSw; (try dsimp only at hSw); go_simp; first | done | with_reducible rfl
            try simp only [Act.put, lsa, lsz, lss]
            refine tkY (i := 15) (oi := .mk _ _ _ _ _ _) (v := ?_) rfl (by kernel_rfl) (fun _ _ _ h => h) (Or.inl ⟨by rfl, ?_⟩) (by assumption) ?_
            rotate_left
            · intro W hSw; (try dsimp only at hSw); go_simp; first | done | with_reducible rfl
            try simp only [Act.put, lsa, lsz, lss]
            refine tkY (i := 16) (oi := .mk _ _ _ _ _ _) (v := ?_) rfl (by kernel_rfl) (fun _ _ _ h => h) (Or.inl ⟨by rfl, ?_⟩) (by assumption) ?_
            rotate_left
            · intro W hSw; (try dsimp only at hSw); go_simp; first | done | with_reducible rfl
            try simp only [Act.put, lsa, lsz, lss]
            refine wpAnyH_ready (rs := [17]) (by kernel_rfl) (by simp) (AllReadyH.cons (o := .mk _ _ _ _ _ _) rfl (fun K hK => ?_) AllReadyH.nil)
            go_simp
            go_at_call 74
            refine (HIX.out false _ HB1.out hHeld).mono ?_
            rintro e wq ⟨⟨n, rfl, hn⟩, hq⟩
            have hq0 : SRd w v gx q gx 0 q.el wq := SRd.now hHeld hq
            go_wp2_with fail
            refine hK.out _ _ ?_ (fun hHeld => ?_)
            · exact hq0
            clear hK K
            try simp only [Act.put, lsa, lsz, lss]
            refine tkY (i := 18) (oi := .mk _ _ _ _ _ _) (v := ?_) rfl (by kernel_rfl) (fun _ _ _ h => h) (Or.inl ⟨by rfl, ?_⟩) (by assumption) ?_
            rotate_left
            · intro W hSw; (try dsimp only at hSw); go_simp; first | done | with_reducible rfl
            try simp only [Act.put, lsa, lsz, lss]
            refine tkY (i := 19) (oi := .mk _ _ _ _ _ _) (v := ?_) rfl (by kernel_rfl) (fun _ _ _ h => h) (Or.inl ⟨by rfl, ?_⟩) (by assumption) ?_
            rotate_left
            · intro W hSw; (try dsimp only at hSw); go_simp; first | done | with_reducible rfl
            try simp only [Act.put, lsa, lsz, lss]
            refine wpAnyH_done (by kernel_rfl) ?_ _
            have hbz := SRd.all hHeld
            have z1 := hbz.2.cell 1
            simp only [List.getElem?_toArray, List.getElem?_cons_zero, List.getElem?_cons_succ] at z1
            go_wp2_with fail
            go_roundw
            case rel => exact ⟨k + 1, by omega, by go_num, hbz.1, HX⟩
            case measure => simp [intOf]; omega
          ·
            by_cases hp2 : q.pos = 2
            · have HX := Lib.hid (upto_succ HK.out (st_yes0 HK0.out HGQ.out hin (Or.inr hp2)))
              have t1 : (q.pos != 1) = true := by simp [hp1]
              have t2 : (q.pos != 2) = false := by simp [hp2]
              clear HNO HGQ HK hin hp1 hp2
              refine wp_region_held_drew (S := (fun w' => w'.cell? ⟨w.heap.size, 0, none⟩ = some (.slice v.A1 v.t.rts.length v.c1) ∧ w'.cell? ⟨w.heap.size, 1, none⟩ = some (.slice v.A2 v.t.pts.length v.c2) ∧ w'.cell? ⟨w.heap.size, 2, none⟩ = some (.slice v.A3 v.t.homes.length v.c3) ∧ w'.cell? ⟨w.heap.size, 3, none⟩ = some (.int .i64 v.t.nsec) ∧ w'.cell? ⟨w.heap.size, 4, none⟩ = some (.int .i64 v.t.nsig) ∧ w'.cell? ⟨gx, 0, none⟩ = some (.int .i64 q.el) ∧ w'.cell? ⟨gx, 0, none⟩ = some (.int .i64 q.el) ∧ (Bx w w' v ∧ Blk w' gx 99 #[.int .i64 q.el, .int .i64 q.pos]))) (by kernel_rfl) (hss.now (Below.refl _ _).drew) (fun hHeld => ?_)
              refine tkY (i := 0) (oi := .mk _ _ _ _ _ _) (v := ?_) rfl (by kernel_rfl) (fun _ _ _ h => h) (Or.inl ⟨by rfl, ?_⟩) (by assumption) ?_
              rotate_left
              · intro W hSw; (try dsimp only at hSw); go_simp; first | done | with_reducible rfl
              try simp only [Act.put, lsa, lsz, lss]
              refine tkY (i := 1) (oi := .mk _ _ _ _ _ _) (v := ?_) rfl (by kernel_rfl) (fun _ _ _ h => h) (Or.inl ⟨by rfl, ?_⟩) (by assumption) ?_
              rotate_left
              · intro W hSw; (try dsimp only at hSw); go_simp; first | done | with_reducible rfl
              try simp only [Act.put, lsa, lsz, lss]
              refine tkY (i := 2) (oi := .mk _ _ _ _ _ _) (v := ?_) rfl (by kernel_rfl) (fun _ _ _ h => h) (Or.inl ⟨by rfl, ?_⟩) (by assumption) ?_
              rotate_left
              · intro W hSw; (try dsimp only at hSw); go_simp; first | done | with_reducible rfl
              try simp only [Act.put, lsa, lsz, lss]
              refine tkY (i := 3) (oi := .mk _ _ _ _ _ _) (v := undef) rfl (by kernel_rfl) (fun _ _ _ h => h) (Or.inr ⟨by rfl, rfl⟩) (by assumption) ?_
              try simp only [Act.put, lsa, lsz, lss]
              refine tkY (i := 4) (oi := .mk _ _ _ _ _ _) (v := undef) rfl (by kernel_rfl) (fun _ _ _ h => h) (Or.inr ⟨by rfl, rfl⟩) (by assumption) ?_
              try simp only [Act.put, lsa, lsz, lss]
              refine tkY (i := 5) (oi := .mk _ _ _ _ _ _) (v := undef) rfl (by kernel_rfl) (fun _ _ _ h => h) (Or.inr ⟨by rfl, rfl⟩) (by assumption) ?_
              try simp only [Act.put, lsa, lsz, lss]
              refine tkY (i := 6) (oi := .mk _ _ _ _ _ _) (v := undef) rfl (by kernel_rfl) (fun _ _ _ h => h) (Or.inr ⟨by rfl, rfl⟩) (by assumption) ?_
              try simp only [Act.put, lsa, lsz, lss]
              refine tkY (i := 7) (oi := .mk _ _ _ _ _ _) (v := undef) rfl (by kernel_rfl) (fun _ _ _ h => h) (Or.inr ⟨by rfl, rfl⟩) (by assumption) ?_
              try simp only [Act.put, lsa, lsz, lss]
              refine tkY (i := 8) (oi := .mk _ _ _ _ _ _) (v := undef) rfl (by kernel_rfl) (fun _ _ _ h => h) (Or.inr ⟨by rfl, rfl⟩) (by assumption) ?_
              try simp only [Act.put, lsa, lsz, lss]
              refine tkY (i := 9) (oi := .mk _ _ _ _ _ _) (v := undef) rfl (by kernel_rfl) (fun _ _ _ h => h) (Or.inr ⟨by rfl, rfl⟩) (by assumption) ?_
              try simp only [Act.put, lsa, lsz, lss]
              refine tkY (i := 10) (oi := .mk _ _ _ _ _ _) (v := undef) rfl (by kernel_rfl) (fun _ _ _ h => h) (Or.inr ⟨by rfl, rfl⟩) (by assumption) ?_
              try simp only [Act.put, lsa, lsz, lss]
              refine tkY (i := 11) (oi := .mk _ _ _ _ _ _) (v := undef) rfl (by kernel_rfl) (fun _ _ _ h => h) (Or.inr ⟨by rfl, rfl⟩) (by assumption) ?_
              try simp only [Act.put, lsa, lsz, lss]
              refine tkY (i := 12) (oi := .mk _ _ _ _ _ _) (v := ?_) rfl (by kernel_rfl) (fun _ _ _ h => h) (Or.inl ⟨by rfl, ?_⟩) (by assumption) ?_
              rotate_left
              · intro W hSw; (try dsimp only at hSw); go_simp; first | done | with_reducible rfl
              try simp only [Act.put, lsa, lsz, lss]
              refine tkY (i := 13) (oi := .mk _ _ _ _ _ _) (v := ?_) rfl (by kernel_rfl) (fun _ _ _ h => h) (Or.inl ⟨by rfl, ?_⟩) (by assumption) ?_
              rotate_left
              · intro W hSw; (try dsimp only at hSw); go_simp; first | done | with_reducible rfl
              try simp only [Act.put, lsa, lsz, lss]
              refine tkY (i := 14) (oi := .mk _ _ _ _ _ _) (v := ?_) rfl (by kernel_rfl) (fun _ _ _ h => h) (Or.inl ⟨by rfl, ?_⟩) (by assumption) ?_
              rotate_left
              · intro W hSw; (try dsimp only at hSw); go_simp; first | done | with_reducible rfl
              try simp only [Act.put, lsa, lsz, lss]
              refine tkY (i := 15) (oi := .mk _ _ _ _ _ _) (v := ?_) rfl (by kernel_rfl) (fun _ _ _ h => h) (Or.inl ⟨by rfl, ?_⟩) (by assumption) ?_
              rotate_left
              · intro W hSw; (try dsimp only at hSw); go_simp; first | done | with_reducible rfl
              try simp only [Act.put, lsa, lsz, lss]
              refine tkY (i := 16) (oi := .mk _ _ _ _ _ _) (v := ?_) rfl (by kernel_rfl) (fun _ _ _ h => h) (Or.inl ⟨by rfl, ?_⟩) (by assumption) ?_
              rotate_left
              · intro W hSw; (try dsimp only at hSw); go_simp; first | done | with_reducible rfl
              try simp only [Act.put, lsa, lsz, lss]
              refine wpAnyH_ready (rs := [17]) (by kernel_rfl) (by simp) (AllReadyH.cons (o := .mk _ _ _ _ _ _) rfl (fun K hK => ?_) AllReadyH.nil)
              go_simp
              go_at_call 74
              refine (HIX.out false _ HB1.out hHeld).mono ?_
              rintro e wq ⟨⟨n, rfl, hn⟩, hq⟩
              have hq0 : SRd w v gx q gx 0 q.el wq := SRd.now hHeld hq
              go_wp2_with fail
              refine hK.out _ _ ?_ (fun hHeld => ?_)
              · exact hq0
              clear hK K
              try simp only [Act.put, lsa, lsz, lss]
              refine tkY (i := 18) (oi := .mk _ _ _ _ _ _) (v := ?_) rfl (by kernel_rfl) (fun _ _ _ h => h) (Or.inl ⟨by rfl, ?_⟩) (by assumption) ?_
              rotate_left
              · intro W hSw; (try dsimp only at hSw); go_simp; first | done | with_reducible rfl
              try simp only [Act.put, lsa, lsz, lss]
              refine tkY (i := 19) (oi := .mk _ _ _ _ _ _) (v := ?_) rfl (by kernel_rfl) (fun _ _ _ h => h) (Or.inl ⟨by rfl, ?_⟩) (by assumption) ?_
              rotate_left
              · intro W hSw; (try dsimp only at hSw); go_simp; first | done | with_reducible rfl
              try simp only [Act.put, lsa, lsz, lss]
              refine wpAnyH_done (by kernel_rfl) ?_ _
              have hbz := SRd.all hHeld
              have z1 := hbz.2.cell 1
              simp only [List.getElem?_toArray, List.getElem?_cons_zero, List.getElem?_cons_succ] at z1
              go_wp2_with fail
              go_roundw
              case rel => exact ⟨k + 1, by omega, by go_num, hbz.1, HX⟩
              case measure => simp [intOf]; omega
            · have HX := Lib.hid (HNO.out (st_no3 HGQ.out hp1 hp2))
              have t1 : (q.pos != 1) = true := by simp [hp1]
              have t2 : (q.pos != 2) = true := by simp [hp2]
              clear HNO HGQ HK hin hp1 hp2
              refine wp_region_held_drew (S := (fun w' => w'.cell? ⟨w.heap.size, 0, none⟩ = some (.slice v.A1 v.t.rts.length v.c1) ∧ w'.cell? ⟨w.heap.size, 1, none⟩ = some (.slice v.A2 v.t.pts.length v.c2) ∧ w'.cell? ⟨w.heap.size, 2, none⟩ = some (.slice v.A3 v.t.homes.length v.c3) ∧ w'.cell? ⟨w.heap.size, 3, none⟩ = some (.int .i64 v.t.nsec) ∧ w'.cell? ⟨w.heap.size, 4, none⟩ = some (.int .i64 v.t.nsig) ∧ w'.cell? ⟨gx, 0, none⟩ = some (.int .i64 q.el) ∧ w'.cell? ⟨gx, 0, none⟩ = some (.int .i64 q.el) ∧ (Bx w w' v ∧ Blk w' gx 99 #[.int .i64 q.el, .int .i64 q.pos]))) (by kernel_rfl) (hss.now (Below.refl _ _).drew) (fun hHeld => ?_)
              refine tkY (i := 0) (oi := .mk _ _ _ _ _ _) (v := ?_) rfl (by kernel_rfl) (fun _ _ _ h => h) (Or.inl ⟨by rfl, ?_⟩) (by assumption) ?_
              rotate_left
              · intro W hSw; (try dsimp only at hSw); go_simp; first | done | with_reducible rfl
              try simp only [Act.put, lsa, lsz, lss]
              refine tkY (i := 1) (oi := .mk _ _ _ _ _ _) (v := ?_) rfl (by kernel_rfl) (fun _ _ _ h => h) (Or.inl ⟨by rfl, ?_⟩) (by assumption) ?_
              rotate_left
              · intro W hSw; (try dsimp only at hSw); go_simp; first | done | with_reducible rfl
              try simp only [Act.put, lsa, lsz, lss]
              refine tkY (i := 2) (oi := .mk _ _ _ _ _ _) (v := ?_) rfl (by kernel_rfl) (fun _ _ _ h => h) (Or.inl ⟨by rfl, ?_⟩) (by assumption) ?_
              rotate_left
              · intro W hSw; (try dsimp only at hSw); go_simp; first | done | with_reducible rfl
              try simp only [Act.put, lsa, lsz, lss]
              refine tkY (i := 3) (oi := .mk _ _ _ _ _ _) (v := undef) rfl (by kernel_rfl) (fun _ _ _ h => h) (Or.inr ⟨by rfl, rfl⟩) (by assumption) ?_
              try simp only [Act.put, lsa, lsz, lss]
              refine tkY (i := 4) (oi := .mk _ _ _ _ _ _) (v := undef) rfl (by kernel_rfl) (fun _ _ _ h => h) (Or.inr ⟨by rfl, rfl⟩) (by assumption) ?_
              try simp only [Act.put, lsa, lsz, lss]
              refine tkY (i := 5) (oi := .mk _ _ _ _ _ _) (v := undef) rfl (by kernel_rfl) (fun _ _ _ h => h) (Or.inr ⟨by rfl, rfl⟩) (by assumption) ?_
              try simp only [Act.put, lsa, lsz, lss]
              refine tkY (i := 6) (oi := .mk _ _ _ _ _ _) (v := undef) rfl (by kernel_rfl) (fun _ _ _ h => h) (Or.inr ⟨by rfl, rfl⟩) (by assumption) ?_
              try simp only [Act.put, lsa, lsz, lss]
              refine tkY (i := 7) (oi := .mk _ _ _ _ _ _) (v := undef) rfl (by kernel_rfl) (fun _ _ _ h => h) (Or.inr ⟨by rfl, rfl⟩) (by assumption) ?_
              try simp only [Act.put, lsa, lsz, lss]
              refine tkY (i := 8) (oi := .mk _ _ _ _ _ _) (v := undef) rfl (by kernel_rfl) (fun _ _ _ h => h) (Or.inr ⟨by rfl, rfl⟩) (by assumption) ?_
              try simp only [Act.put, lsa, lsz, lss]
              refine tkY (i := 9) (oi := .mk _ _ _ _ _ _) (v := undef) rfl (by kernel_rfl) (fun _ _ _ h => h) (Or.inr ⟨by rfl, rfl⟩) (by assumption) ?_
              try simp only [Act.put, lsa, lsz, lss]
              refine tkY (i := 10) (oi := .mk _ _ _ _ _ _) (v := undef) rfl (by kernel_rfl) (fun _ _ _ h => h) (Or.inr ⟨by rfl, rfl⟩) (by assumption) ?_
              try simp only [Act.put, lsa, lsz, lss]
              refine tkY (i := 11) (oi := .mk _ _ _ _ _ _) (v := undef) rfl (by kernel_rfl) (fun _ _ _ h => h) (Or.inr ⟨by rfl, rfl⟩) (by assumption) ?_
              try simp only [Act.put, lsa, lsz, lss]
              refine tkY (i := 12) (oi := .mk _ _ _ _ _ _) (v := ?_) rfl (by kernel_rfl) (fun _ _ _ h => h) (Or.inl ⟨by rfl, ?_⟩) (by assumption) ?_
              rotate_left
              · intro W hSw; (try dsimp only at hSw); go_simp; first | done | with_reducible rfl
              try simp only [Act.put, lsa, lsz, lss]
              refine tkY (i := 13) (oi := .mk _ _ _ _ _ _) (v := ?_) rfl (by kernel_rfl) (fun _ _ _ h => h) (Or.inl ⟨by rfl, ?_⟩) (by assumption) ?_
              rotate_left
              · intro W hSw; (try dsimp only at hSw); go_simp; first | done | with_reducible rfl
              try simp only [Act.put, lsa, lsz, lss]
              refine tkY (i := 14) (oi := .mk _ _ _ _ _ _) (v := ?_) rfl (by kernel_rfl) (fun _ _ _ h => h) (Or.inl ⟨by rfl, ?_⟩) (by assumption) ?_
              rotate_left
              · intro W hSw; (try dsimp only at hSw); go_simp; first | done | with_reducible rfl
              try simp only [Act.put, lsa, lsz, lss]
              refine tkY (i := 15) (oi := .mk _ _ _ _ _ _) (v := ?_) rfl (by kernel_rfl) (fun _ _ _ h => h) (Or.inl ⟨by rfl, ?_⟩) (by assumption) ?_
              rotate_left
              · intro W hSw; (try dsimp only at hSw); go_simp; first | done | with_reducible rfl
              try simp only [Act.put, lsa, lsz, lss]
              refine tkY (i := 16) (oi := .mk _ _ _ _ _ _) (v := ?_) rfl (by kernel_rfl) (fun _ _ _ h => h) (Or.inl ⟨by rfl, ?_⟩) (by assumption) ?_
              rotate_left
              · intro W hSw; (try dsimp only at hSw); go_simp; first | done | with_reducible rfl
              try simp only [Act.put, lsa, lsz, lss]
              refine wpAnyH_ready (rs := [17]) (by kernel_rfl) (by simp) (AllReadyH.cons (o := .mk _ _ _ _ _ _) rfl (fun K hK => ?_) AllReadyH.nil)
              go_simp
              go_at_call 74
              refine (HIX.out false _ HB1.out hHeld).mono ?_
              rintro e wq ⟨⟨n, rfl, hn⟩, hq⟩
              have hq0 : SRd w v gx q gx 0 q.el wq := SRd.now hHeld hq
              go_wp2_with fail
              refine hK.out _ _ ?_ (fun hHeld => ?_)
              · exact hq0
              clear hK K
              try simp only [Act.put, lsa, lsz, lss]
              refine tkY (i := 18) (oi := .mk _ _ _ _ _ _) (v := ?_) rfl (by kernel_rfl) (fun _ _ _ h => h) (Or.inl ⟨by rfl, ?_⟩) (by assumption) ?_
              rotate_left
              · intro W hSw; (try dsimp only at hSw); go_simp; first | done | with_reducible rfl
              try simp only [Act.put, lsa, lsz, lss]
              refine tkY (i := 19) (oi := .mk _ _ _ _ _ _) (v := ?_) rfl (by kernel_rfl) (fun _ _ _ h => h) (Or.inl ⟨by rfl, ?_⟩) (by assumption) ?_
              rotate_left
              · intro W hSw; (try dsimp only at hSw); go_simp; first | done | with_reducible rfl
              try simp only [Act.put, lsa, lsz, lss]
              refine wpAnyH_done (by kernel_rfl) ?_ _
              have hbz := SRd.all hHeld
              have z1 := hbz.2.cell 1
              simp only [List.getElem?_toArray, List.getElem?_cons_zero, List.getElem?_cons_succ] at z1
              go_wp2_with fail
              go_ret
              exact ⟨ret_b HX.out.symm, hbz.1.bel⟩
        · have HB1 : Hid (decide (q.el ∉ v.t.pts) = true) := Lib.hid (by simp [hin])
          have HX := Lib.hid (HNO.out (st_no2 HGQ.out hin))
          clear HNO HGQ HK hin
          refine wp_region_held_drew (S := (fun w' => w'.cell? ⟨w.heap.size, 0, none⟩ = some (.slice v.A1 v.t.rts.length v.c1) ∧ w'.cell? ⟨w.heap.size, 1, none⟩ = some (.slice v.A2 v.t.pts.length v.c2) ∧ w'.cell? ⟨w.heap.size, 2, none⟩ = some (.slice v.A3 v.t.homes.length v.c3) ∧ w'.cell? ⟨w.heap.size, 3, none⟩ = some (.int .i64 v.t.nsec) ∧ w'.cell? ⟨w.heap.size, 4, none⟩ = some (.int .i64 v.t.nsig) ∧ w'.cell? ⟨gx, 0, none⟩ = some (.int .i64 q.el) ∧ w'.cell? ⟨gx, 0, none⟩ = some (.int .i64 q.el) ∧ (Bx w w' v ∧ Blk w' gx 99 #[.int .i64 q.el, .int .i64 q.pos]))) (by kernel_rfl) (hss.now (Below.refl _ _).drew) (fun hHeld => ?_)
          refine tkY (i := 0) (oi := .mk _ _ _ _ _ _) (v := ?_) rfl (by kernel_rfl) (fun _ _ _ h => h) (Or.inl ⟨by rfl, ?_⟩) (by assumption) ?_
          rotate_left
          · intro W hSw; (try dsimp only at hSw); go_simp; first | done | with_reducible rfl
          try simp only [Act.put, lsa, lsz, lss]
          refine tkY (i := 1) (oi := .mk _ _ _ _ _ _) (v := ?_) rfl (by kernel_rfl) (fun _ _ _ h => h) (Or.inl ⟨by rfl, ?_⟩) (by assumption) ?_
          rotate_left
          · intro W hSw; (try dsimp only at hSw); go_simp; first | done | with_reducible rfl
          try simp only [Act.put, lsa, lsz, lss]
          refine tkY (i := 2) (oi := .mk _ _ _ _ _ _) (v := ?_) rfl (by kernel_rfl) (fun _ _ _ h => h) (Or.inl ⟨by rfl, ?_⟩) (by assumption) ?_
          rotate_left
          · intro W hSw; (try dsimp only at hSw); go_simp; first | done | with_reducible rfl
          try simp only [Act.put, lsa, lsz, lss]
          refine tkY (i := 3) (oi := .mk _ _ _ _ _ _) (v := undef) rfl (by kernel_rfl) (fun _ _ _ h => h) (Or.inr ⟨by rfl, rfl⟩) (by assumption) ?_
          try simp only [Act.put, lsa, lsz, lss]
          refine tkY (i := 4) (oi := .mk _ _ _ _ _ _) (v := undef) rfl (by kernel_rfl) (fun _ _ _ h => h) (Or.inr ⟨by rfl, rfl⟩) (by assumption) ?_
          try simp only [Act.put, lsa, lsz, lss]
          refine tkY (i := 5) (oi := .mk _ _ _ _ _ _) (v := undef) rfl (by kernel_rfl) (fun _ _ _ h => h) (Or.inr ⟨by rfl, rfl⟩) (by assumption) ?_
          try simp only [Act.put, lsa, lsz, lss]
          refine tkY (i := 6) (oi := .mk _ _ _ _ _ _) (v := undef) rfl (by kernel_rfl) (fun _ _ _ h => h) (Or.inr ⟨by rfl, rfl⟩) (by assumption) ?_
          try simp only [Act.put, lsa, lsz, lss]
          refine tkY (i := 7) (oi := .mk _ _ _ _ _ _) (v := undef) rfl (by kernel_rfl) (fun _ _ _ h => h) (Or.inr ⟨by rfl, rfl⟩) (by assumption) ?_
          try simp only [Act.put, lsa, lsz, lss]
          refine tkY (i := 8) (oi := .mk _ _ _ _ _ _) (v := undef) rfl (by kernel_rfl) (fun _ _ _ h => h) (Or.inr ⟨by rfl, rfl⟩) (by assumption) ?_
          try simp only [Act.put, lsa, lsz, lss]
          refine tkY (i := 9) (oi := .mk _ _ _ _ _ _) (v := undef) rfl (by kernel_rfl) (fun _ _ _ h => h) (Or.inr ⟨by rfl, rfl⟩) (by assumption) ?_
          try simp only [Act.put, lsa, lsz, lss]
          refine tkY (i := 10) (oi := .mk _ _ _ _ _ _) (v := undef) rfl (by kernel_rfl) (fun _ _ _ h => h) (Or.inr ⟨by rfl, rfl⟩) (by assumption) ?_
          try simp only [Act.put, lsa, lsz, lss]
          refine tkY (i := 11) (oi := .mk _ _ _ _ _ _) (v := undef) rfl (by kernel_rfl) (fun _ _ _ h => h) (Or.inr ⟨by rfl, rfl⟩) (by assumption) ?_
          try simp only [Act.put, lsa, lsz, lss]
          refine tkY (i := 12) (oi := .mk _ _ _ _ _ _) (v := ?_) rfl (by kernel_rfl) (fun _ _ _ h => h) (Or.inl ⟨by rfl, ?_⟩) (by assumption) ?_
          rotate_left
          · intro W hSw; (try dsimp only at hSw); go_simp; first | done | with_reducible rfl
          try simp only [Act.put, lsa, lsz, lss]
          refine tkY (i := 13) (oi := .mk _ _ _ _ _ _) (v := ?_) rfl (by kernel_rfl) (fun _ _ _ h => h) (Or.inl ⟨by rfl, ?_⟩) (by assumption) ?_
          rotate_left
          · intro W hSw; (try dsimp only at hSw); go_simp; first | done | with_reducible rfl
          try simp only [Act.put, lsa, lsz, lss]
          refine tkY (i := 14) (oi := .mk _ _ _ _ _ _) (v := ?_) rfl (by kernel_rfl) (fun _ _ _ h => h) (Or.inl ⟨by rfl, ?_⟩) (by assumption) ?_
          rotate_left
          · intro W hSw; (try dsimp only at hSw); go_simp; first | done | with_reducible rfl
          try simp only [Act.put, lsa, lsz, lss]
          refine tkY (i := 15) (oi := .mk _ _ _ _ _ _) (v := ?_) rfl (by kernel_rfl) (fun _ _ _ h => h) (Or.inl ⟨by rfl, ?_⟩) (by assumption) ?_
          rotate_left
          · intro W hSw; (try dsimp only at hSw); go_simp; first | done | with_reducible rfl
          try simp only [Act.put, lsa, lsz, lss]
          refine tkY (i := 16) (oi := .mk _ _ _ _ _ _) (v := ?_) rfl (by kernel_rfl) (fun _ _ _ h => h) (Or.inl ⟨by rfl, ?_⟩) (by assumption) ?_
          rotate_left
          · intro W hSw; (try dsimp only at hSw); go_simp; first | done | with_reducible rfl
          try simp only [Act.put, lsa, lsz, lss]
          refine wpAnyH_ready (rs := [17]) (by kernel_rfl) (by simp) (AllReadyH.cons (o := .mk _ _ _ _ _ _) rfl (fun K hK => ?_) AllReadyH.nil)
          go_simp
          go_at_call 74
          refine (HIX.out true _ HB1.out hHeld).mono ?_
          rintro e wq ⟨⟨n, rfl, hn⟩, hq⟩
          have hq0 : SRd w v gx q gx 0 q.el wq := SRd.now hHeld hq
          go_wp2_with fail
          refine hK.out _ _ ?_ (fun hHeld => ?_)
          · exact hq0
          clear hK K
          try simp only [Act.put, lsa, lsz, lss]
          refine tkY (i := 18) (oi := .mk _ _ _ _ _ _) (v := ?_) rfl (by kernel_rfl) (fun _ _ _ h => h) (Or.inl ⟨by rfl, ?_⟩) (by assumption) ?_
          rotate_left
          · intro W hSw; (try dsimp only at hSw); go_simp; first | done | with_reducible rfl
          try simp only [Act.put, lsa, lsz, lss]
          refine tkY (i := 19) (oi := .mk _ _ _ _ _ _) (v := ?_) rfl (by kernel_rfl) (fun _ _ _ h => h) (Or.inl ⟨by rfl, ?_⟩) (by assumption) ?_
          rotate_left
          · intro W hSw; (try dsimp only at hSw); go_simp; first | done | with_reducible rfl
          try simp only [Act.put, lsa, lsz, lss]
          refine wpAnyH_done (by kernel_rfl) ?_ _
          have hbz := SRd.all hHeld
          go_wp2_with fail
          go_ret
          exact ⟨ret_b HX.out.symm, hbz.1.bel⟩
      · have hz0' : decide ((0 : Int) < (k : Int)) = true := by simp; omega
        have hz0n : decide (0 < k) = true := by simp; omega
        have hwk : IntKind.i64.wrap ((k : Int) - 1) = (k : Int) - 1 := IntWalk.i64_in _ (by omega)
        have hzp : (0 : Int) < (k : Int) := by omega
        have hz1 : (1 : Int) ≤ (k : Int) := by omega
        have hz2 : 1 ≤ k := by omega
        have hz3 : 0 < k := by omega
        have hz4 : (0 : Int) ≤ (k : Int) - 1 := by omega
        have hkm : (k : Int) - 1 < (l.length : Int) := by omega
        have hkt : ((k : Int) - 1).toNat = k - 1 := by omega
        have HJ := Lib.hid hj
        have HGP := Lib.hid hp
        clear hj hp
        go_wp2_with fail
        generalize wr.alloc (.cells #[.int .i64 q.el, .int .i64 q.pos] 99) = W0 at *
        generalize wr.heap.size = gx at *
        clear y0 y1 hb hba lb
        by_cases hle : q.el ≤ p.el
        · have hled : decide (q.el ≤ p.el) = true := by simpa using hle
          have HX := Lib.hid (HNO.out (st_no1 HJ.out HGQ.out HGP.out hle))
          clear HNO HGQ HGP HK hle
          refine wp_region_held_drew (S := (fun w' => w'.cell? ⟨w.heap.size, 0, none⟩ = some (.slice v.A1 v.t.rts.length v.c1) ∧ w'.cell? ⟨w.heap.size, 1, none⟩ = some (.slice v.A2 v.t.pts.length v.c2) ∧ w'.cell? ⟨w.heap.size, 2, none⟩ = some (.slice v.A3 v.t.homes.length v.c3) ∧ w'.cell? ⟨w.heap.size, 3, none⟩ = some (.int .i64 v.t.nsec) ∧ w'.cell? ⟨w.heap.size, 4, none⟩ = some (.int .i64 v.t.nsig) ∧ w'.cell? ⟨gx, 0, none⟩ = some (.int .i64 q.el) ∧ w'.cell? ⟨b, off + (k - 1) * 2, none⟩ = some (.int .i64 p.el) ∧ (Bx w w' v ∧ Blk w' gx 99 #[.int .i64 q.el, .int .i64 q.pos]))) (by kernel_rfl) (hss.now (Below.refl _ _).drew) (fun hHeld => ?_)
          refine tkY (i := 0) (oi := .mk _ _ _ _ _ _) (v := ?_) rfl (by kernel_rfl) (fun _ _ _ h => h) (Or.inl ⟨by rfl, ?_⟩) (by assumption) ?_
          rotate_left
          · intro W hSw; (try dsimp only at hSw); go_simp; first | done | with_reducible rfl
          try simp only [Act.put, lsa, lsz, lss]
          refine tkY (i := 1) (oi := .mk _ _ _ _ _ _) (v := ?_) rfl (by kernel_rfl) (fun _ _ _ h => h) (Or.inl ⟨by rfl, ?_⟩) (by assumption) ?_
          rotate_left
          · intro W hSw; (try dsimp only at hSw); go_simp; first | done | with_reducible rfl
          try simp only [Act.put, lsa, lsz, lss]
          refine tkY (i := 2) (oi := .mk _ _ _ _ _ _) (v := ?_) rfl (by kernel_rfl) (fun _ _ _ h => h) (Or.inl ⟨by rfl, ?_⟩) (by assumption) ?_
          rotate_left
          · intro W hSw; (try dsimp only at hSw); go_simp; first | done | with_reducible rfl
          try simp only [Act.put, lsa, lsz, lss]
          refine tkY (i := 3) (oi := .mk _ _ _ _ _ _) (v := ?_) rfl (by kernel_rfl) (fun _ _ _ h => h) (Or.inl ⟨by rfl, ?_⟩) (by assumption) ?_
          rotate_left
          · intro W hSw; (try dsimp only at hSw); go_simp; first | done | with_reducible rfl
          try simp only [Act.put, lsa, lsz, lss]
          refine tkY (i := 4) (oi := .mk _ _ _ _ _ _) (v := ?_) rfl (by kernel_rfl) (fun _ _ _ h => h) (Or.inl ⟨by rfl, ?_⟩) (by assumption) ?_
          rotate_left
          · intro W hSw; (try dsimp only at hSw); go_simp; first | done | with_reducible rfl
          try simp only [Act.put, lsa, lsz, lss]
          refine tkY (i := 5) (oi := .mk _ _ _ _ _ _) (v := ?_) rfl (by kernel_rfl) (fun _ _ _ h => h) (Or.inl ⟨by rfl, ?_⟩) (by assumption) ?_
          rotate_left
          · intro W hSw; (try dsimp only at hSw); go_simp; first | done | with_reducible rfl
          try simp only [Act.put, lsa, lsz, lss]
          refine tkY (i := 6) (oi := .mk _ _ _ _ _ _) (v := ?_) rfl (by kernel_rfl) (fun _ _ _ h => h) (Or.inl ⟨by rfl, ?_⟩) (by assumption) ?_
          rotate_left
          · intro W hSw; (try dsimp only at hSw); go_simp; first | done | with_reducible rfl
          try simp only [Act.put, lsa, lsz, lss]
          refine tkY (i := 7) (oi := .mk _ _ _ _ _ _) (v := ?_) rfl (by kernel_rfl) (fun _ _ _ h => h) (Or.inl ⟨by rfl, ?_⟩) (by assumption) ?_
          rotate_left
          · intro W hSw; (try dsimp only at hSw); go_simp; first | done | with_reducible rfl
          try simp only [Act.put, lsa, lsz, lss]
          refine tkY (i := 8) (oi := .mk _ _ _ _ _ _) (v := ?_) rfl (by kernel_rfl) (fun _ _ _ h => h) (Or.inl ⟨by rfl, ?_⟩) (by assumption) ?_
          rotate_left
          · intro W hSw; (try dsimp only at hSw); go_simp; first | done | with_reducible rfl
          try simp only [Act.put, lsa, lsz, lss]
          refine tkY (i := 9) (oi := .mk _ _ _ _ _ _) (v := ?_) rfl (by kernel_rfl) (fun _ _ _ h => h) (Or.inl ⟨by rfl, ?_⟩) (by assumption) ?_
          rotate_left
          · intro W hSw; (try dsimp only at hSw); go_simp; first | done | with_reducible rfl
          try simp only [Act.put, lsa, lsz, lss]
          refine tkY (i := 10) (oi := .mk _ _ _ _ _ _) (v := ?_) rfl (by kernel_rfl) (fun _ _ _ h => h) (Or.inl ⟨by rfl, ?_⟩) (by assumption) ?_
          rotate_left
          · intro W hSw; (try dsimp only at hSw); go_simp; first | done | with_reducible rfl
          try simp only [Act.put, lsa, lsz, lss]
          refine tkY (i := 11) (oi := .mk _ _ _ _ _ _) (v := ?_) rfl (by kernel_rfl) (fun _ _ _ h => h) (Or.inl ⟨by rfl, ?_⟩) (by assumption) ?_
          rotate_left
          · intro W hSw; (try dsimp only at hSw); go_simp; first | done | with_reducible rfl
          try simp only [Act.put, lsa, lsz, lss]
          refine tkY (i := 12) (oi := .mk _ _ _ _ _ _) (v := ?_) rfl (by kernel_rfl) (fun _ _ _ h => h) (Or.inl ⟨by rfl, ?_⟩) (by assumption) ?_
          rotate_left
          · intro W hSw; (try dsimp only at hSw); go_simp; first | done | with_reducible rfl
          try simp only [Act.put, lsa, lsz, lss]
          refine tkY (i := 13) (oi := .mk _ _ _ _ _ _) (v := ?_) rfl (by kernel_rfl) (fun _ _ _ h => h) (Or.inl ⟨by rfl, ?_⟩) (by assumption) ?_
          rotate_left
          · intro W hSw; (try dsimp only at hSw); go_simp; first | done | with_reducible rfl
          try simp only [Act.put, lsa, lsz, lss]
          refine tkY (i := 14) (oi := .mk _ _ _ _ _ _) (v := undef) rfl (by kernel_rfl) (fun _ _ _ h => h) (Or.inr ⟨by rfl, rfl⟩) (by assumption) ?_
          try simp only [Act.put, lsa, lsz, lss]
          refine tkY (i := 15) (oi := .mk _ _ _ _ _ _) (v := undef) rfl (by kernel_rfl) (fun _ _ _ h => h) (Or.inr ⟨by rfl, rfl⟩) (by assumption) ?_
          try simp only [Act.put, lsa, lsz, lss]
          refine tkY (i := 16) (oi := .mk _ _ _ _ _ _) (v := undef) rfl (by kernel_rfl) (fun _ _ _ h => h) (Or.inr ⟨by rfl, rfl⟩) (by assumption) ?_
          try simp only [Act.put, lsa, lsz, lss]
          refine tkY (i := 17) (oi := .mk _ _ _ _ _ _) (v := undef) rfl (by kernel_rfl) (fun _ _ _ h => h) (Or.inr ⟨by rfl, rfl⟩) (by assumption) ?_
          try simp only [Act.put, lsa, lsz, lss]
          refine tkY (i := 18) (oi := .mk _ _ _ _ _ _) (v := undef) rfl (by kernel_rfl) (fun _ _ _ h => h) (Or.inr ⟨by rfl, rfl⟩) (by assumption) ?_
          try simp only [Act.put, lsa, lsz, lss]
          refine tkY (i := 19) (oi := .mk _ _ _ _ _ _) (v := ?_) rfl (by kernel_rfl) (fun _ _ _ h => h) (Or.inl ⟨by rfl, ?_⟩) (by assumption) ?_
          rotate_left
          · intro W hSw; (try dsimp only at hSw); go_simp; first | done | with_reducible rfl
          try simp only [Act.put, lsa, lsz, lss]
          refine wpAnyH_done (by kernel_rfl) ?_ _
          have hbz := SRd.all (gx := gx) (x := q) (p := p.el) (bp := b) (op := off + (k - 1) * 2) hHeld
          go_wp2_with fail
          go_ret
          exact ⟨ret_b HX.out.symm, hbz.1.bel⟩
        have hled : decide (q.el ≤ p.el) = false := by simpa using hle
        have HLE := Lib.hid hle
        clear hle
        have HIX : Hid (∀ (bb : Bool) W, decide (q.el ∉ v.t.pts) = bb → SRd w v gx q b (off + (k - 1) * 2) p.el W → Calls Tryz.prog 74 #[.agg #[.slice v.A1 v.t.rts.length v.c1, .slice v.A2 v.t.pts.length v.c2, .slice v.A3 v.t.homes.length v.c3, .int .i64 v.t.nsec, .int .i64 v.t.nsig], .int .i64 q.el] W fun e w' => (∃ n : Int, e = .returned (.int .i64 n) ∧ decide (n < 0) = bb) ∧ Below W.heap.size W w') := Lib.hid fun bb W hb h => tindexC v q.el bb hb W h.all.1.rd
        by_cases hin : q.el ∈ v.t.pts
        · have HB1 : Hid (decide (q.el ∉ v.t.pts) = false) := Lib.hid (by simp [hin])
          by_cases hp1 : q.pos = 1
          · have HX := Lib.hid (upto_succ HK.out (st_yes1 HJ.out HGQ.out HGP.out hin (Or.inl hp1) HLE.out))
            have t1 : (q.pos != 1) = false := by simp [hp1]
            clear HNO HGQ HK hin hp1
            refine wp_region_held_drew (S := (fun w' => w'.cell? ⟨w.heap.size, 0, none⟩ = some (.slice v.A1 v.t.rts.length v.c1) ∧ w'.cell? ⟨w.heap.size, 1, none⟩ = some (.slice v.A2 v.t.pts.length v.c2) ∧ w'.cell? ⟨w.heap.size, 2, none⟩ = some (.slice v.A3 v.t.homes.length v.c3) ∧ w'.cell? ⟨w.heap.size, 3, none⟩ = some (.int .i64 v.t.nsec) ∧ w'.cell? ⟨w.heap.size, 4, none⟩ = some (.int .i64 v.t.nsig) ∧ w'.cell? ⟨gx, 0, none⟩ = some (.int .i64 q.el) ∧ w'.cell? ⟨b, off + (k - 1) * 2, none⟩ = some (.int .i64 p.el) ∧ (Bx w w' v ∧ Blk w' gx 99 #[.int .i64 q.el, .int .i64 q.pos]))) (by kernel_rfl) (hss.now (Below.refl _ _).drew) (fun hHeld => ?_)
            refine tkY (i := 0) (oi := .mk _ _ _ _ _ _) (v := ?_) rfl (by kernel_rfl) (fun _ _ _ h => h) (Or.inl ⟨by rfl, ?_⟩) (by assumption) ?_
            rotate_left
            · intro W hSw; (try dsimp only at hSw); go_simp; first | done | with_reducible rfl
            try simp only [Act.put, lsa, lsz, lss]
            refine tkY (i := 1) (oi := .mk _ _ _ _ _ _) (v := ?_) rfl (by kernel_rfl) (fun _ _ _ h => h) (Or.inl ⟨by rfl, ?_⟩) (by assumption) ?_
            rotate_left
            · intro W hSw; (try dsimp only at hSw); go_simp; first | done | with_reducible rfl
            try simp only [Act.put, lsa, lsz, lss]
            refine tkY (i := 2) (oi := .mk _ _ _ _ _ _) (v := ?_) rfl (by kernel_rfl) (fun _ _ _ h => h) (Or.inl ⟨by rfl, ?_⟩) (by assumption) ?_
            rotate_left
            · intro W hSw; (try dsimp only at hSw); go_simp; first | done | with_reducible rfl
            try simp only [Act.put, lsa, lsz, lss]
            refine tkY (i := 3) (oi := .mk _ _ _ _ _ _) (v := ?_) rfl (by kernel_rfl) (fun _ _ _ h => h) (Or.inl ⟨by rfl, ?_⟩) (by assumption) ?_
            rotate_left
            · intro W hSw; (try dsimp only at hSw); go_simp; first | done | with_reducible rfl
            try simp only [Act.put, lsa, lsz, lss]
            refine tkY (i := 4) (oi := .mk _ _ _ _ _ _) (v := ?_) rfl (by kernel_rfl) (fun _ _ _ h => h) (Or.inl ⟨by rfl, ?_⟩) (by assumption) ?_
            rotate_left
            · intro W hSw; (try dsimp only at hSw); go_simp; first | done | with_reducible rfl
            try simp only [Act.put, lsa, lsz, lss]
            refine tkY (i := 5) (oi := .mk _ _ _ _ _ _) (v := ?_) rfl (by kernel_rfl) (fun _ _ _ h => h) (Or.inl ⟨by rfl, ?_⟩) (by assumption) ?_
            rotate_left
            · intro W hSw; (try dsimp only at hSw); go_simp; first | done | with_reducible rfl
            try simp only [Act.put, lsa, lsz, lss]
            refine tkY (i := 6) (oi := .mk _ _ _ _ _ _) (v := ?_) rfl (by kernel_rfl) (fun _ _ _ h => h) (Or.inl ⟨by rfl, ?_⟩) (by assumption) ?_
            rotate_left
            · intro W hSw; (try dsimp only at hSw); go_simp; first | done | with_reducible rfl
            try simp only [Act.put, lsa, lsz, lss]
            refine tkY (i := 7) (oi := .mk _ _ _ _ _ _) (v := ?_) rfl (by kernel_rfl) (fun _ _ _ h => h) (Or.inl ⟨by rfl, ?_⟩) (by assumption) ?_
            rotate_left
            · intro W hSw; (try dsimp only at hSw); go_simp; first | done | with_reducible rfl
            try simp only [Act.put, lsa, lsz, lss]
            refine tkY (i := 8) (oi := .mk _ _ _ _ _ _) (v := ?_) rfl (by kernel_rfl) (fun _ _ _ h => h) (Or.inl ⟨by rfl, ?_⟩) (by assumption) ?_
            rotate_left
            · intro W hSw; (try dsimp only at hSw); go_simp; first | done | with_reducible rfl
            try simp only [Act.put, lsa, lsz, lss]
            refine tkY (i := 9) (oi := .mk _ _ _ _ _ _) (v := ?_) rfl (by kernel_rfl) (fun _ _ _ h => h) (Or.inl ⟨by rfl, ?_⟩) (by assumption) ?_
            rotate_left
            · intro W hSw; (try dsimp only at hSw); go_simp; first | done | with_reducible rfl
            try simp only [Act.put, lsa, lsz, lss]
            refine tkY (i := 10) (oi := .mk _ _ _ _ _ _) (v := ?_) rfl (by kernel_rfl) (fun _ _ _ h => h) (Or.inl ⟨by rfl, ?_⟩) (by assumption) ?_
            rotate_left
            · intro W hSw; (try dsimp only at hSw); go_simp; first | done | with_reducible rfl
            try simp only [Act.put, lsa, lsz, lss]
            refine tkY (i := 11) (oi := .mk _ _ _ _ _ _) (v := ?_) rfl (by kernel_rfl) (fun _ _ _ h => h) (Or.inl ⟨by rfl, ?_⟩) (by assumption) ?_
            rotate_left
            · intro W hSw; (try dsimp only at hSw); go_simp; first | done | with_reducible rfl
            try simp only [Act.put, lsa, lsz, lss]
            refine tkY (i := 12) (oi := .mk _ _ _ _ _ _) (v := ?_) rfl (by kernel_rfl) (fun _ _ _ h => h) (Or.inl ⟨by rfl, ?_⟩) (by assumption) ?_
            rotate_left
            · intro W hSw; (try dsimp only at hSw); go_simp; first | done | with_reducible rfl
            try simp only [Act.put, lsa, lsz, lss]
            refine tkY (i := 13) (oi := .mk _ _ _ _ _ _) (v := ?_) rfl (by kernel_rfl) (fun _ _ _ h => h) (Or.inl ⟨by rfl, ?_⟩) (by assumption) ?_
            rotate_left
            · intro W hSw; (try dsimp only at hSw); go_simp; first | done | with_reducible rfl
            try simp only [Act.put, lsa, lsz, lss]
            refine tkY (i := 14) (oi := .mk _ _ _ _ _ _) (v := ?_) rfl (by kernel_rfl) (fun _ _ _ h => h) (Or.inl ⟨by rfl, ?_⟩) (by assumption) ?_
            rotate_left
            · intro W hSw; (try dsimp only at hSw); go_simp; first | done | with_reducible rfl
            try simp only [Act.put, lsa, lsz, lss]
            refine tkY (i := 15) (oi := .mk _ _ _ _ _ _) (v := ?_) rfl (by kernel_rfl) (fun _ _ _ h => h) (Or.inl ⟨by rfl, ?_⟩) (by assumption) ?_
            rotate_left
            · intro W hSw; (try dsimp only at hSw); go_simp; first | done | with_reducible rfl
            try simp only [Act.put, lsa, lsz, lss]
            refine tkY (i := 16) (oi := .mk _ _ _ _ _ _) (v := ?_) rfl (by kernel_rfl) (fun _ _ _ h => h) (Or.inl ⟨by rfl, ?_⟩) (by assumption) ?_
            rotate_left
            · intro W hSw; (try dsimp only at hSw); go_simp; first | done | with_reducible rfl
            try simp only [Act.put, lsa, lsz, lss]
            refine wpAnyH_ready (rs := [17]) (by kernel_rfl) (by simp) (AllReadyH.cons (o := .mk _ _ _ _ _ _) rfl (fun K hK => ?_) AllReadyH.nil)
            go_simp
            go_at_call 74
            refine (HIX.out false _ HB1.out hHeld).mono ?_
            rintro e wq ⟨⟨n, rfl, hn⟩, hq⟩
            have hq0 : SRd w v gx q b (off + (k - 1) * 2) p.el wq := SRd.now hHeld hq
            go_wp2_with fail
            refine hK.out _ _ ?_ (fun hHeld => ?_)
            · exact hq0
            clear hK K
            try simp only [Act.put, lsa, lsz, lss]
            refine tkY (i := 18) (oi := .mk _ _ _ _ _ _) (v := ?_) rfl (by kernel_rfl) (fun _ _ _ h => h) (Or.inl ⟨by rfl, ?_⟩) (by assumption) ?_
            rotate_left
            · intro W hSw; (try dsimp only at hSw); go_simp; first | done | with_reducible rfl
            try simp only [Act.put, lsa, lsz, lss]
            refine tkY (i := 19) (oi := .mk _ _ _ _ _ _) (v := ?_) rfl (by kernel_rfl) (fun _ _ _ h => h) (Or.inl ⟨by rfl, ?_⟩) (by assumption) ?_
            rotate_left
            · intro W hSw; (try dsimp only at hSw); go_simp; first | done | with_reducible rfl
            try simp only [Act.put, lsa, lsz, lss]
            refine wpAnyH_done (by kernel_rfl) ?_ _
            have hbz := SRd.all hHeld
            have z1 := hbz.2.cell 1
            simp only [List.getElem?_toArray, List.getElem?_cons_zero, List.getElem?_cons_succ] at z1
            go_wp2_with fail
            go_roundw
            case rel => exact ⟨k + 1, by omega, by go_num, hbz.1, HX⟩
            case measure => simp [intOf]; omega
          ·
            by_cases hp2 : q.pos = 2
            · have HX := Lib.hid (upto_succ HK.out (st_yes1 HJ.out HGQ.out HGP.out hin (Or.inr hp2) HLE.out))
              have t1 : (q.pos != 1) = true := by simp [hp1]
              have t2 : (q.pos != 2) = false := by simp [hp2]
              clear HNO HGQ HK hin hp1 hp2
              refine wp_region_held_drew (S := (fun w' => w'.cell? ⟨w.heap.size, 0, none⟩ = some (.slice v.A1 v.t.rts.length v.c1) ∧ w'.cell? ⟨w.heap.size, 1, none⟩ = some (.slice v.A2 v.t.pts.length v.c2) ∧ w'.cell? ⟨w.heap.size, 2, none⟩ = some (.slice v.A3 v.t.homes.length v.c3) ∧ w'.cell? ⟨w.heap.size, 3, none⟩ = some (.int .i64 v.t.nsec) ∧ w'.cell? ⟨w.heap.size, 4, none⟩ = some (.int .i64 v.t.nsig) ∧ w'.cell? ⟨gx, 0, none⟩ = some (.int .i64 q.el) ∧ w'.cell? ⟨b, off + (k - 1) * 2, none⟩ = some (.int .i64 p.el) ∧ (Bx w w' v ∧ Blk w' gx 99 #[.int .i64 q.el, .int .i64 q.pos]))) (by kernel_rfl) (hss.now (Below.refl _ _).drew) (fun hHeld => ?_)
              refine tkY (i := 0) (oi := .mk _ _ _ _ _ _) (v := ?_) rfl (by kernel_rfl) (fun _ _ _ h => h) (Or.inl ⟨by rfl, ?_⟩) (by assumption) ?_
              rotate_left
              · intro W hSw; (try dsimp only at hSw); go_simp; first | done | with_reducible rfl
              try simp only [Act.put, lsa, lsz, lss]
              refine tkY (i := 1) (oi := .mk _ _ _ _ _ _) (v := ?_) rfl (by kernel_rfl) (fun _ _ _ h => h) (Or.inl ⟨by rfl, ?_⟩) (by assumption) ?_
              rotate_left
              · intro W hSw; (try dsimp only at hSw); go_simp; first | done | with_reducible rfl
              try simp only [Act.put, lsa, lsz, lss]
              refine tkY (i := 2) (oi := .mk _ _ _ _ _ _) (v := ?_) rfl (by kernel_rfl) (fun _ _ _ h => h) (Or.inl ⟨by rfl, ?_⟩) (by assumption) ?_
              rotate_left
              · intro W hSw; (try dsimp only at hSw); go_simp; first | done | with_reducible rfl
              try simp only [Act.put, lsa, lsz, lss]
              refine tkY (i := 3) (oi := .mk _ _ _ _ _ _) (v := ?_) rfl (by kernel_rfl) (fun _ _ _ h => h) (Or.inl ⟨by rfl, ?_⟩) (by assumption) ?_
              rotate_left
              · intro W hSw; (try dsimp only at hSw); go_simp; first | done | with_reducible rfl
              try simp only [Act.put, lsa, lsz, lss]
              refine tkY (i := 4) (oi := .mk _ _ _ _ _ _) (v := ?_) rfl (by kernel_rfl) (fun _ _ _ h => h) (Or.inl ⟨by rfl, ?_⟩) (by assumption) ?_
              rotate_left
              · intro W hSw; (try dsimp only at hSw); go_simp; first | done | with_reducible rfl
              try simp only [Act.put, lsa, lsz, lss]
              refine tkY (i := 5) (oi := .mk _ _ _ _ _ _) (v := ?_) rfl (by kernel_rfl) (fun _ _ _ h => h) (Or.inl ⟨by rfl, ?_⟩) (by assumption) ?_
              rotate_left
              · intro W hSw; (try dsimp only at hSw); go_simp; first | done | with_reducible rfl
              try simp only [Act.put, lsa, lsz, lss]
              refine tkY (i := 6) (oi := .mk _ _ _ _ _ _) (v := ?_) rfl (by kernel_rfl) (fun _ _ _ h => h) (Or.inl ⟨by rfl, ?_⟩) (by assumption) ?_
              rotate_left
              · intro W hSw; (try dsimp only at hSw); go_simp; first | done | with_reducible rfl
              try simp only [Act.put, lsa, lsz, lss]
              refine tkY (i := 7) (oi := .mk _ _ _ _ _ _) (v := ?_) rfl (by kernel_rfl) (fun _ _ _ h => h) (Or.inl ⟨by rfl, ?_⟩) (by assumption) ?_
              rotate_left
              · intro W hSw; (try dsimp only at hSw); go_simp; first | done | with_reducible rfl
              try simp only [Act.put, lsa, lsz, lss]
              refine tkY (i := 8) (oi := .mk _ _ _ _ _ _) (v := ?_) rfl (by kernel_rfl) (fun _ _ _ h => h) (Or.inl ⟨by rfl, ?_⟩) (by assumption) ?_
              rotate_left
              · intro W hSw; (try dsimp only at hSw); go_simp; first | done | with_reducible rfl
              try simp only [Act.put, lsa, lsz, lss]
              refine tkY (i := 9) (oi := .mk _ _ _ _ _ _) (v := ?_) rfl (by kernel_rfl) (fun _ _ _ h => h) (Or.inl ⟨by rfl, ?_⟩) (by assumption) ?_
              rotate_left
              · intro W hSw; (try dsimp only at hSw); go_simp; first | done | with_reducible rfl
              try simp only [Act.put, lsa, lsz, lss]
              refine tkY (i := 10) (oi := .mk _ _ _ _ _ _) (v := ?_) rfl (by kernel_rfl) (fun _ _ _ h => h) (Or.inl ⟨by rfl, ?_⟩) (by assumption) ?_
              rotate_left
              · intro W hSw; (try dsimp only at hSw); go_simp; first | done | with_reducible rfl
              try simp only [Act.put, lsa, lsz, lss]
              refine tkY (i := 11) (oi := .mk _ _ _ _ _ _) (v := ?_) rfl (by kernel_rfl) (fun _ _ _ h => h) (Or.inl ⟨by rfl, ?_⟩) (by assumption) ?_
              rotate_left
              · intro W hSw; (try dsimp only at hSw); go_simp; first | done | with_reducible rfl
              try simp only [Act.put, lsa, lsz, lss]
              refine tkY (i := 12) (oi := .mk _ _ _ _ _ _) (v := ?_) rfl (by kernel_rfl) (fun _ _ _ h => h) (Or.inl ⟨by rfl, ?_⟩) (by assumption) ?_
              rotate_left
              · intro W hSw; (try dsimp only at hSw); go_simp; first | done | with_reducible rfl
              try simp only [Act.put, lsa, lsz, lss]
              refine tkY (i := 13) (oi := .mk _ _ _ _ _ _) (v := ?_) rfl (by kernel_rfl) (fun _ _ _ h => h) (Or.inl ⟨by rfl, ?_⟩) (by assumption) ?_
              rotate_left
              · intro W hSw; (try dsimp only at hSw); go_simp; first | done | with_reducible rfl
              try simp only [Act.put, lsa, lsz, lss]
              refine tkY (i := 14) (oi := .mk _ _ _ _ _ _) (v := ?_) rfl (by kernel_rfl) (fun _ _ _ h => h) (Or.inl ⟨by rfl, ?_⟩) (by assumption) ?_
              rotate_left
              · intro W hSw; (try dsimp only at hSw); go_simp; first | done | with_reducible rfl
              try simp only [Act.put, lsa, lsz, lss]
              refine tkY (i := 15) (oi := .mk _ _ _ _ _ _) (v := ?_) rfl (by kernel_rfl) (fun _ _ _ h => h) (Or.inl ⟨by rfl, ?_⟩) (by assumption) ?_
              rotate_left
              · intro W hSw; (try dsimp only at hSw); go_simp; first | done | with_reducible rfl
              try simp only [Act.put, lsa, lsz, lss]
              refine tkY (i := 16) (oi := .mk _ _ _ _ _ _) (v := ?_) rfl (by kernel_rfl) (fun _ _ _ h => h) (Or.inl ⟨by rfl, ?_⟩) (by assumption) ?_
              rotate_left
              · intro W hSw; (try dsimp only at hSw); go_simp; first | done | with_reducible rfl
              try simp only [Act.put, lsa, lsz, lss]
              refine wpAnyH_ready (rs := [17]) (by kernel_rfl) (by simp) (AllReadyH.cons (o := .mk _ _ _ _ _ _) rfl (fun K hK => ?_) AllReadyH.nil)
              go_simp
              go_at_call 74
              refine (HIX.out false _ HB1.out hHeld).mono ?_
              rintro e wq ⟨⟨n, rfl, hn⟩, hq⟩
              have hq0 : SRd w v gx q b (off + (k - 1) * 2) p.el wq := SRd.now hHeld hq
              go_wp2_with fail
              refine hK.out _ _ ?_ (fun hHeld => ?_)
              · exact hq0
              clear hK K
              try simp only [Act.put, lsa, lsz, lss]
              refine tkY (i := 18) (oi := .mk _ _ _ _ _ _) (v := ?_) rfl (by kernel_rfl) (fun _ _ _ h => h) (Or.inl ⟨by rfl, ?_⟩) (by assumption) ?_
              rotate_left
              · intro W hSw; (try dsimp only at hSw); go_simp; first | done | with_reducible rfl
              try simp only [Act.put, lsa, lsz, lss]
              refine tkY (i := 19) (oi := .mk _ _ _ _ _ _) (v := ?_) rfl (by kernel_rfl) (fun _ _ _ h => h) (Or.inl ⟨by rfl, ?_⟩) (by assumption) ?_
              rotate_left
              · intro W hSw; (try dsimp only at hSw); go_simp; first | done | with_reducible rfl
              try simp only [Act.put, lsa, lsz, lss]
              refine wpAnyH_done (by kernel_rfl) ?_ _
              have hbz := SRd.all hHeld
              have z1 := hbz.2.cell 1
              simp only [List.getElem?_toArray, List.getElem?_cons_zero, List.getElem?_cons_succ] at z1
              go_wp2_with fail
              go_roundw
              case rel => exact ⟨k + 1, by omega, by go_num, hbz.1, HX⟩
              case measure => simp [intOf]; omega
            · have HX := Lib.hid (HNO.out (st_no3 HGQ.out hp1 hp2))
              have t1 : (q.pos != 1) = true := by simp [hp1]
              have t2 : (q.pos != 2) = true := by simp [hp2]
              clear HNO HGQ HK hin hp1 hp2
              refine wp_region_held_drew (S := (fun w' => w'.cell? ⟨w.heap.size, 0, none⟩ = some (.slice v.A1 v.t.rts.length v.c1) ∧ w'.cell? ⟨w.heap.size, 1, none⟩ = some (.slice v.A2 v.t.pts.length v.c2) ∧ w'.cell? ⟨w.heap.size, 2, none⟩ = some (.slice v.A3 v.t.homes.length v.c3) ∧ w'.cell? ⟨w.heap.size, 3, none⟩ = some (.int .i64 v.t.nsec) ∧ w'.cell? ⟨w.heap.size, 4, none⟩ = some (.int .i64 v.t.nsig) ∧ w'.cell? ⟨gx, 0, none⟩ = some (.int .i64 q.el) ∧ w'.cell? ⟨b, off + (k - 1) * 2, none⟩ = some (.int .i64 p.el) ∧ (Bx w w' v ∧ Blk w' gx 99 #[.int .i64 q.el, .int .i64 q.pos]))) (by kernel_rfl) (hss.now (Below.refl _ _).drew) (fun hHeld => ?_)
              refine tkY (i := 0) (oi := .mk _ _ _ _ _ _) (v := ?_) rfl (by kernel_rfl) (fun _ _ _ h => h) (Or.inl ⟨by rfl, ?_⟩) (by assumption) ?_
              rotate_left
              · intro W hSw; (try dsimp only at hSw); go_simp; first | done | with_reducible rfl
              try simp only [Act.put, lsa, lsz, lss]
              refine tkY (i := 1) (oi := .mk _ _ _ _ _ _) (v := ?_) rfl (by kernel_rfl) (fun _ _ _ h => h) (Or.inl ⟨by rfl, ?_⟩) (by assumption) ?_
              rotate_left
              · intro W hSw; (try dsimp only at hSw); go_simp; first | done | with_reducible rfl
              try simp only [Act.put, lsa, lsz, lss]
              refine tkY (i := 2) (oi := .mk _ _ _ _ _ _) (v := ?_) rfl (by kernel_rfl) (fun _ _ _ h => h) (Or.inl ⟨by rfl, ?_⟩) (by assumption) ?_
              rotate_left
              · intro W hSw; (try dsimp only at hSw); go_simp; first | done | with_reducible rfl
              try simp only [Act.put, lsa, lsz, lss]
              refine tkY (i := 3) (oi := .mk _ _ _ _ _ _) (v := ?_) rfl (by kernel_rfl) (fun _ _ _ h => h) (Or.inl ⟨by rfl, ?_⟩) (by assumption) ?_
              rotate_left
              · intro W hSw; (try dsimp only at hSw); go_simp; first | done | with_reducible rfl
              try simp only [Act.put, lsa, lsz, lss]
              refine tkY (i := 4) (oi := .mk _ _ _ _ _ _) (v := ?_) rfl (by kernel_rfl) (fun _ _ _ h => h) (Or.inl ⟨by rfl, ?_⟩) (by assumption) ?_
              rotate_left
              · intro W hSw; (try dsimp only at hSw); go_simp; first | done | with_reducible rfl
              try simp only [Act.put, lsa, lsz, lss]
              refine tkY (i := 5) (oi := .mk _ _ _ _ _ _) (v := ?_) rfl (by kernel_rfl) (fun _ _ _ h => h) (Or.inl ⟨by rfl, ?_⟩) (by assumption) ?_
              rotate_left
              · intro W hSw; (try dsimp only at hSw); go_simp; first | done | with_reducible rfl
              try simp only [Act.put, lsa, lsz, lss]
              refine tkY (i := 6) (oi := .mk _ _ _ _ _ _) (v := ?_) rfl (by kernel_rfl) (fun _ _ _ h => h) (Or.inl ⟨by rfl, ?_⟩) (by assumption) ?_
              rotate_left
              · intro W hSw; (try dsimp only at hSw); go_simp; first | done | with_reducible rfl
              try simp only [Act.put, lsa, lsz, lss]
              refine tkY (i := 7) (oi := .mk _ _ _ _ _ _) (v := ?_) rfl (by kernel_rfl) (fun _ _ _ h => h) (Or.inl ⟨by rfl, ?_⟩) (by assumption) ?_
              rotate_left
              · intro W hSw; (try dsimp only at hSw); go_simp; first | done | with_reducible rfl
              try simp only [Act.put, lsa, lsz, lss]
              refine tkY (i := 8) (oi := .mk _ _ _ _ _ _) (v := ?_) rfl (by kernel_rfl) (fun _ _ _ h => h) (Or.inl ⟨by rfl, ?_⟩) (by assumption) ?_
              rotate_left
              · intro W hSw; (try dsimp only at hSw); go_simp; first | done | with_reducible rfl
              try simp only [Act.put, lsa, lsz, lss]
              refine tkY (i := 9) (oi := .mk _ _ _ _ _ _) (v := ?_) rfl (by kernel_rfl) (fun _ _ _ h => h) (Or.inl ⟨by rfl, ?_⟩) (by assumption) ?_
              rotate_left
              · intro W hSw; (try dsimp only at hSw); go_simp; first | done | with_reducible rfl
              try simp only [Act.put, lsa, lsz, lss]
              refine tkY (i := 10) (oi := .mk _ _ _ _ _ _) (v := ?_) rfl (by kernel_rfl) (fun _ _ _ h => h) (Or.inl ⟨by rfl, ?_⟩) (by assumption) ?_
              rotate_left
              · intro W hSw; (try dsimp only at hSw); go_simp; first | done | with_reducible rfl
              try simp only [Act.put, lsa, lsz, lss]
              refine tkY (i := 11) (oi := .mk _ _ _ _ _ _) (v := ?_) rfl (by kernel_rfl) (fun _ _ _ h => h) (Or.inl ⟨by rfl, ?_⟩) (by assumption) ?_
              rotate_left
              · intro W hSw; (try dsimp only at hSw); go_simp; first | done | with_reducible rfl
              try simp only [Act.put, lsa, lsz, lss]
              refine tkY (i := 12) (oi := .mk _ _ _ _ _ _) (v := ?_) rfl (by kernel_rfl) (fun _ _ _ h => h) (Or.inl ⟨by rfl, ?_⟩) (by assumption) ?_
              rotate_left
              · intro W hSw; (try dsimp only at hSw); go_simp; first | done | with_reducible rfl
              try simp only [Act.put, lsa, lsz, lss]
              refine tkY (i := 13) (oi := .mk _ _ _ _ _ _) (v := ?_) rfl (by kernel_rfl) (fun _ _ _ h => h) (Or.inl ⟨by rfl, ?_⟩) (by assumption) ?_
              rotate_left
              · intro W hSw; (try dsimp only at hSw); go_simp; first | done | with_reducible rfl
              try simp only [Act.put, lsa, lsz, lss]
              refine tkY (i := 14) (oi := .mk _ _ _ _ _ _) (v := ?_) rfl (by kernel_rfl) (fun _ _ _ h => h) (Or.inl ⟨by rfl, ?_⟩) (by assumption) ?_
              rotate_left
              · intro W hSw; (try dsimp only at hSw); go_simp; first | done | with_reducible rfl
              try simp only [Act.put, lsa, lsz, lss]
              refine tkY (i := 15) (oi := .mk _ _ _ _ _ _) (v := ?_) rfl (by kernel_rfl) (fun _ _ _ h => h) (Or.inl ⟨by rfl, ?_⟩) (by assumption) ?_
              rotate_left
              · intro W hSw; (try dsimp only at hSw); go_simp; first | done | with_reducible rfl
              try simp only [Act.put, lsa, lsz, lss]
              refine tkY (i := 16) (oi := .mk _ _ _ _ _ _) (v := ?_) rfl (by kernel_rfl) (fun _ _ _ h => h) (Or.inl ⟨by rfl, ?_⟩) (by assumption) ?_
              rotate_left
              · intro W hSw; (try dsimp only at hSw); go_simp; first | done | with_reducible rfl
              try simp only [Act.put, lsa, lsz, lss]
              refine wpAnyH_ready (rs := [17]) (by kernel_rfl) (by simp) (AllReadyH.cons (o := .mk _ _ _ _ _ _) rfl (fun K hK => ?_) AllReadyH.nil)
              go_simp
              go_at_call 74
              refine (HIX.out false _ HB1.out hHeld).mono ?_
              rintro e wq ⟨⟨n, rfl, hn⟩, hq⟩
              have hq0 : SRd w v gx q b (off + (k - 1) * 2) p.el wq := SRd.now hHeld hq
              go_wp2_with fail
              refine hK.out _ _ ?_ (fun hHeld => ?_)
              · exact hq0
              clear hK K
              try simp only [Act.put, lsa, lsz, lss]
              refine tkY (i := 18) (oi := .mk _ _ _ _ _ _) (v := ?_) rfl (by kernel_rfl) (fun _ _ _ h => h) (Or.inl ⟨by rfl, ?_⟩) (by assumption) ?_
              rotate_left
              · intro W hSw; (try dsimp only at hSw); go_simp; first | done | with_reducible rfl
              try simp only [Act.put, lsa, lsz, lss]
              refine tkY (i := 19) (oi := .mk _ _ _ _ _ _) (v := ?_) rfl (by kernel_rfl) (fun _ _ _ h => h) (Or.inl ⟨by rfl, ?_⟩) (by assumption) ?_
              rotate_left
              · intro W hSw; (try dsimp only at hSw); go_simp; first | done | with_reducible rfl
              try simp only [Act.put, lsa, lsz, lss]
              refine wpAnyH_done (by kernel_rfl) ?_ _
              have hbz := SRd.all hHeld
              have z1 := hbz.2.cell 1
              simp only [List.getElem?_toArray, List.getElem?_cons_zero, List.getElem?_cons_succ] at z1
              go_wp2_with fail
              go_ret
              exact ⟨ret_b HX.out.symm, hbz.1.bel⟩
        · have HB1 : Hid (decide (q.el ∉ v.t.pts) = true) := Lib.hid (by simp [hin])
          have HX := Lib.hid (HNO.out (st_no2 HGQ.out hin))
          clear HNO HGQ HK hin
          refine wp_region_held_drew (S := (fun w' => w'.cell? ⟨w.heap.size, 0, none⟩ = some (.slice v.A1 v.t.rts.length v.c1) ∧ w'.cell? ⟨w.heap.size, 1, none⟩ = some (.slice v.A2 v.t.pts.length v.c2) ∧ w'.cell? ⟨w.heap.size, 2, none⟩ = some (.slice v.A3 v.t.homes.length v.c3) ∧ w'.cell? ⟨w.heap.size, 3, none⟩ = some (.int .i64 v.t.nsec) ∧ w'.cell? ⟨w.heap.size, 4, none⟩ = some (.int .i64 v.t.nsig) ∧ w'.cell? ⟨gx, 0, none⟩ = some (.int .i64 q.el) ∧ w'.cell? ⟨b, off + (k - 1) * 2, none⟩ = some (.int .i64 p.el) ∧ (Bx w w' v ∧ Blk w' gx 99 #[.int .i64 q.el, .int .i64 q.pos]))) (by kernel_rfl) (hss.now (Below.refl _ _).drew) (fun hHeld => ?_)
          refine tkY (i := 0) (oi := .mk _ _ _ _ _ _) (v := ?_) rfl (by kernel_rfl) (fun _ _ _ h => h) (Or.inl ⟨by rfl, ?_⟩) (by assumption) ?_
          rotate_left
          · intro W hSw; (try dsimp only at hSw); go_simp; first | done | with_reducible rfl
          try simp only [Act.put, lsa, lsz, lss]
          refine tkY (i := 1) (oi := .mk _ _ _ _ _ _) (v := ?_) rfl (by kernel_rfl) (fun _ _ _ h => h) (Or.inl ⟨by rfl, ?_⟩) (by assumption) ?_
          rotate_left
          · intro W hSw; (try dsimp only at hSw); go_simp; first | done | with_reducible rfl
          try simp only [Act.put, lsa, lsz, lss]
          refine tkY (i := 2) (oi := .mk _ _ _ _ _ _) (v := ?_) rfl (by kernel_rfl) (fun _ _ _ h => h) (Or.inl ⟨by rfl, ?_⟩) (by assumption) ?_
          rotate_left
          · intro W hSw; (try dsimp only at hSw); go_simp; first | done | with_reducible rfl
          try simp only [Act.put, lsa, lsz, lss]
          refine tkY (i := 3) (oi := .mk _ _ _ _ _ _) (v := ?_) rfl (by kernel_rfl) (fun _ _ _ h => h) (Or.inl ⟨by rfl, ?_⟩) (by assumption) ?_
          rotate_left
          · intro W hSw; (try dsimp only at hSw); go_simp; first | done | with_reducible rfl
          try simp only [Act.put, lsa, lsz, lss]
          refine tkY (i := 4) (oi := .mk _ _ _ _ _ _) (v := ?_) rfl (by kernel_rfl) (fun _ _ _ h => h) (Or.inl ⟨by rfl, ?_⟩) (by assumption) ?_
          rotate_left
          · intro W hSw; (try dsimp only at hSw); go_simp; first | done | with_reducible rfl
          try simp only [Act.put, lsa, lsz, lss]
          refine tkY (i := 5) (oi := .mk _ _ _ _ _ _) (v := ?_) rfl (by kernel_rfl) (fun _ _ _ h => h) (Or.inl ⟨by rfl, ?_⟩) (by assumption) ?_
          rotate_left
          · intro W hSw; (try dsimp only at hSw); go_simp; first | done | with_reducible rfl
          try simp only [Act.put, lsa, lsz, lss]
          refine tkY (i := 6) (oi := .mk _ _ _ _ _ _) (v := ?_) rfl (by kernel_rfl) (fun _ _ _ h => h) (Or.inl ⟨by rfl, ?_⟩) (by assumption) ?_
          rotate_left
          · intro W hSw; (try dsimp only at hSw); go_simp; first | done | with_reducible rfl
          try simp only [Act.put, lsa, lsz, lss]
          refine tkY (i := 7) (oi := .mk _ _ _ _ _ _) (v := ?_) rfl (by kernel_rfl) (fun _ _ _ h => h) (Or.inl ⟨by rfl, ?_⟩) (by assumption) ?_
          rotate_left
          · intro W hSw; (try dsimp only at hSw); go_simp; first | done | with_reducible rfl
          try simp only [Act.put, lsa, lsz, lss]
          refine tkY (i := 8) (oi := .mk _ _ _ _ _ _) (v := ?_) rfl (by kernel_rfl) (fun _ _ _ h => h) (Or.inl ⟨by rfl, ?_⟩) (by assumption) ?_
          rotate_left
          · intro W hSw; (try dsimp only at hSw); go_simp; first | done | with_reducible rfl
          try simp only [Act.put, lsa, lsz, lss]
          refine tkY (i := 9) (oi := .mk _ _ _ _ _ _) (v := ?_) rfl (by kernel_rfl) (fun _ _ _ h => h) (Or.inl ⟨by rfl, ?_⟩) (by assumption) ?_
          rotate_left
          · intro W hSw; (try dsimp only at hSw); go_simp; first | done | with_reducible rfl
          try simp only [Act.put, lsa, lsz, lss]
          refine tkY (i := 10) (oi := .mk _ _ _ _ _ _) (v := ?_) rfl (by kernel_rfl) (fun _ _ _ h => h) (Or.inl ⟨by rfl, ?_⟩) (by assumption) ?_
          rotate_left
          · intro W hSw; (try dsimp only at hSw); go_simp; first | done | with_reducible rfl
          try simp only [Act.put, lsa, lsz, lss]
          refine tkY (i := 11) (oi := .mk _ _ _ _ _ _) (v := ?_) rfl (by kernel_rfl) (fun _ _ _ h => h) (Or.inl ⟨by rfl, ?_⟩) (by assumption) ?_
          rotate_left
          · intro W hSw; (try dsimp only at hSw); go_simp; first | done | with_reducible rfl
          try simp only [Act.put, lsa, lsz, lss]
          refine tkY (i := 12) (oi := .mk _ _ _ _ _ _) (v := ?_) rfl (by kernel_rfl) (fun _ _ _ h => h) (Or.inl ⟨by rfl, ?_⟩) (by assumption) ?_
          rotate_left
          · intro W hSw; (try dsimp only at hSw); go_simp; first | done | with_reducible rfl
          try simp only [Act.put, lsa, lsz, lss]
          refine tkY (i := 13) (oi := .mk _ _ _ _ _ _) (v := ?_) rfl (by kernel_rfl) (fun _ _ _ h => h) (Or.inl ⟨by rfl, ?_⟩) (by assumption) ?_
          rotate_left
          · intro W hSw; (try dsimp only at hSw); go_simp; first | done | with_reducible rfl
          try simp only [Act.put, lsa, lsz, lss]
          refine tkY (i := 14) (oi := .mk _ _ _ _ _ _) (v := ?_) rfl (by kernel_rfl) (fun _ _ _ h => h) (Or.inl ⟨by rfl, ?_⟩) (by assumption) ?_
          rotate_left
          · intro W hSw; (try dsimp only at hSw); go_simp; first | done | with_reducible rfl
          try simp only [Act.put, lsa, lsz, lss]
          refine tkY (i := 15) (oi := .mk _ _ _ _ _ _) (v := ?_) rfl (by kernel_rfl) (fun _ _ _ h => h) (Or.inl ⟨by rfl, ?_⟩) (by assumption) ?_
          rotate_left
          · intro W hSw; (try dsimp only at hSw); go_simp; first | done | with_reducible rfl
          try simp only [Act.put, lsa, lsz, lss]
          refine tkY (i := 16) (oi := .mk _ _ _ _ _ _) (v := ?_) rfl (by kernel_rfl) (fun _ _ _ h => h) (Or.inl ⟨by rfl, ?_⟩) (by assumption) ?_
          rotate_left
          · intro W hSw; (try dsimp only at hSw); go_simp; first | done | with_reducible rfl
          try simp only [Act.put, lsa, lsz, lss]
          refine wpAnyH_ready (rs := [17]) (by kernel_rfl) (by simp) (AllReadyH.cons (o := .mk _ _ _ _ _ _) rfl (fun K hK => ?_) AllReadyH.nil)
          go_simp
          go_at_call 74
          refine (HIX.out true _ HB1.out hHeld).mono ?_
          rintro e wq ⟨⟨n, rfl, hn⟩, hq⟩
          have hq0 : SRd w v gx q b (off + (k - 1) * 2) p.el wq := SRd.now hHeld hq
          go_wp2_with fail
          refine hK.out _ _ ?_ (fun hHeld => ?_)
          · exact hq0
          clear hK K
          try simp only [Act.put, lsa, lsz, lss]
          refine tkY (i := 18) (oi := .mk _ _ _ _ _ _) (v := ?_) rfl (by kernel_rfl) (fun _ _ _ h => h) (Or.inl ⟨by rfl, ?_⟩) (by assumption) ?_
          rotate_left
          · intro W hSw; (try dsimp only at hSw); go_simp; first | done | with_reducible rfl
          try simp only [Act.put, lsa, lsz, lss]
          refine tkY (i := 19) (oi := .mk _ _ _ _ _ _) (v := ?_) rfl (by kernel_rfl) (fun _ _ _ h => h) (Or.inl ⟨by rfl, ?_⟩) (by assumption) ?_
          rotate_left
          · intro W hSw; (try dsimp only at hSw); go_simp; first | done | with_reducible rfl
          try simp only [Act.put, lsa, lsz, lss]
          refine wpAnyH_done (by kernel_rfl) ?_ _
          have hbz := SRd.all hHeld
          go_wp2_with fail
          go_ret
          exact ⟨ret_b HX.out.symm, hbz.1.bel⟩
    · have HX := Lib.hid (HZ.out fun j hj => HK.out j (by omega))
      go_wp2_with fail
      go_ret
      exact ⟨ret_b HX.out.symm, hb.bel⟩
end Go.Proofs.YtlblfblkallnhaaGreatDoor
