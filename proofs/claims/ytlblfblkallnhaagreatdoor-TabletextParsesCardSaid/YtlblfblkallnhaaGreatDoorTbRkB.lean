/- The walk of the reference's settings. -/
import Derived.Test.YtlblfblkallnhaaGreatDoorTbRkA
import Derived.Test.YtlblfblkallnhaaGreatDoorTbChkC
namespace Go.Proofs.YtlblfblkallnhaaGreatDoor
set_option linter.unusedVariables false
set_option linter.unusedSimpArgs false
open Go.RowKit
attribute [local go_sem] bs_size bs_get bs_append bs_extract bs_toList
attribute [-go_sem] run_equalIn_agg
/-- What is known in a round over settings. -/
def SRe (w : World) (v : TabV) (gx : Nat) (x : Stg) (bp op : Nat) (p : Int) (W : World) : Prop :=
  W.cell? ⟨w.heap.size, 0, none⟩ = some (.slice v.A1 v.t.rts.length v.c1) ∧ W.cell? ⟨w.heap.size, 1, none⟩ = some (.slice v.A2 v.t.pts.length v.c2) ∧ W.cell? ⟨w.heap.size, 2, none⟩ = some (.slice v.A3 v.t.homes.length v.c3) ∧ W.cell? ⟨w.heap.size, 3, none⟩ = some (.int .i64 v.t.nsec) ∧ W.cell? ⟨w.heap.size, 4, none⟩ = some (.int .i64 v.t.nsig) ∧ W.cell? ⟨gx, 0, none⟩ = some (.int .i64 x.el) ∧ W.cell? ⟨gx, 1, none⟩ = some (.int .i64 x.pos) ∧ W.cell? ⟨bp, op, none⟩ = some (.int .i64 p) ∧ (Bx w W v ∧ Blk W gx 99 #[.int .i64 x.el, .int .i64 x.pos])
section
variable {w W W' : World} {v : TabV} {gx bp op : Nat} {x : Stg} {p : Int}
theorem SRe.mk (h : Bx w W v) (hg : Blk W gx 99 #[.int .i64 x.el, .int .i64 x.pos]) (hp : W.cell? ⟨bp, op, none⟩ = some (.int .i64 p)) : SRe w v gx x bp op p W := ⟨h.x0, h.x1, h.x2, h.x3, h.x4, hg.cell 0, hg.cell 1, hp, h, hg⟩
theorem SRe.all (h : SRe w v gx x bp op p W) : Bx w W v ∧ Blk W gx 99 #[.int .i64 x.el, .int .i64 x.pos] := h.2.2.2.2.2.2.2.2
theorem SRe.now (h : SRe w v gx x bp op p W) (hb : Below W.heap.size W W') : SRe w v gx x bp op p W' := SRe.mk (h.all.1.now hb) (h.all.2.now hb) (cell_now h.2.2.2.2.2.2.2.1 hb)
end
theorem rIndexC (v : TabV) (x : Int) (b : Bool) (hb : decide (x ∉ v.t.pts) = b) (w : World) (hr : TvR w v) : Calls Tryz.prog 83 #[tvA v, .int .i64 x] w fun e w' => (∃ n : Int, e = .returned (.int .i64 n) ∧ decide (n < 0) = b) ∧ Below w.heap.size w w' := (rIndex_any v x w hr).mono fun _ _ ⟨⟨n, h1, h2⟩, h3⟩ => ⟨⟨n, h1, by rw [← hb]; exact decide_eq_decide.2 h2⟩, h3⟩
set_option maxRecDepth 100000 in
set_option maxHeartbeats 8000000 in
theorem rSettings_any (v : TabV) (l : List Stg) (A : Option Addr) (cap : Nat) (w : World) (hr : TvR w v) (hl : RdS cStg w (Lt w) A l) (hn : l.length ≤ maxLen) : Calls Tryz.prog 53 #[tvA v, .slice A l.length cap] w fun e w' => e = .returned (.bool (stsB v.t l)) ∧ Below w.heap.size w w' := by
  have hbx := Bx.new hr
  unfold maxLen at hn
  have HY : Hid (∀ k, k < l.length → stB v.t l k = false → stsB v.t l = false) := Lib.hid fun k hk h => by unfold stsB; rw [range_no hk h]
  have HZ : Hid ((∀ k, k < l.length → stB v.t l k = true) → stsB v.t l = true) := Lib.hid fun h => by unfold stsB; rw [range_yes h]
  have HLR := Lib.hid hl
  clear hl
  unfold tvA
  go_enter Tryz.func53, Tryz.ntmps53
  go_wp2_with fail
  go_loopw [9] (fun n wr => ∃ k : Nat, k ≤ l.length ∧ n = .int .i64 k ∧ Bx w wr v ∧ Hid (∀ j, j < k → stB v.t l j = true)) (fun n _ => l.length - (intOf n).toNat)
  case atStart => exact ⟨0, Nat.zero_le _, rfl, hbx, Lib.hid (fun j hj => absurd hj (Nat.not_lt_zero _))⟩
  case round =>
    obtain ⟨k, hk, rfl, hb, HK⟩ := hrel
    clear hbx
    by_cases hlt : k < l.length
    · have hki : (k : Int) < (l.length : Int) := by omega
      have hl := HLR.out.now hb.bel
      obtain ⟨b, off, hA, lb, -, y0, y1⟩ := hl.elG hlt
      have hba := hb.alloc (.cells #[.int .i64 l[k].el, .int .i64 l[k].pos] 99)
      have hgx : Blk (wr.alloc (.cells #[.int .i64 l[k].el, .int .i64 l[k].pos] 99)) wr.heap.size 99 #[.int .i64 l[k].el, .int .i64 l[k].pos] := Blk.new _ _ _ _ rfl
      have HNO := Lib.hid (HY.out k hlt)
      have HGQ := Lib.hid (getD_at hlt zG)
      have hcase : (k = 0 ∧ SRe w v wr.heap.size l[k] wr.heap.size 0 l[k].el (wr.alloc (.cells #[.int .i64 l[k].el, .int .i64 l[k].pos] 99))) ∨ ∃ j p, k = j + 1 ∧ l.getD j zG = p ∧ SRe w v wr.heap.size l[k] b (off + (k - 1) * 2) p.el (wr.alloc (.cells #[.int .i64 l[k].el, .int .i64 l[k].pos] 99)) := by
        by_cases hk0 : k = 0
        · exact Or.inl ⟨hk0, SRe.mk hba hgx (hgx.cell 0)⟩
        · refine Or.inr ⟨k - 1, l[k - 1], by omega, getD_at (by omega) zG, SRe.mk hba hgx ?_⟩
          obtain ⟨b', off', hA', _, -, u0, _⟩ := (HLR.out.now hba.bel).elG (show k - 1 < l.length by omega)
          obtain ⟨rfl, rfl⟩ : b = b' ∧ off = off' := by rw [hA] at hA'; simp only [Option.some.injEq, Addr.mk.injEq] at hA'; exact ⟨hA'.1, hA'.2.1⟩
          exact u0
      clear hgx HLR
      rw [hA]
      clear hA hl
      generalize l[k] = q at *
      rcases hcase with ⟨hk0, hss⟩ | ⟨j, p, hj, hp, hss⟩
      · have hz0' : decide ((0 : Int) < (k : Int)) = false := by simp; omega
        have hz0n : decide (0 < k) = false := by simp; omega
        have HK0 := Lib.hid hk0
        clear hk0
        go_wp2_with fail
        generalize wr.alloc (.cells #[.int .i64 q.el, .int .i64 q.pos] 99) = W0 at *
        generalize wr.heap.size = gx at *
        clear y0 y1 hb hba lb
        have HIX : Hid (∀ (bb : Bool) W, decide (q.el ∉ v.t.pts) = bb → SRe w v gx q gx 0 q.el W → Calls Tryz.prog 83 #[.agg #[.slice v.A1 v.t.rts.length v.c1, .slice v.A2 v.t.pts.length v.c2, .slice v.A3 v.t.homes.length v.c3, .int .i64 v.t.nsec, .int .i64 v.t.nsig], .int .i64 q.el] W fun e w' => (∃ n : Int, e = .returned (.int .i64 n) ∧ decide (n < 0) = bb) ∧ Below W.heap.size W w') := Lib.hid fun bb W hb h => rIndexC v q.el bb hb W h.all.1.rd
        by_cases hin : q.el ∈ v.t.pts
        case neg =>
          have HB1 : Hid (decide (q.el ∉ v.t.pts) = true) := Lib.hid (by simp [hin])
          have HX := Lib.hid (HNO.out (st_no2 HGQ.out hin))
          clear HNO HGQ HK hin
          refine wp_region_held_drew (S := (fun w' => w'.cell? ⟨w.heap.size, 0, none⟩ = some (.slice v.A1 v.t.rts.length v.c1) ∧ w'.cell? ⟨w.heap.size, 1, none⟩ = some (.slice v.A2 v.t.pts.length v.c2) ∧ w'.cell? ⟨w.heap.size, 2, none⟩ = some (.slice v.A3 v.t.homes.length v.c3) ∧ w'.cell? ⟨w.heap.size, 3, none⟩ = some (.int .i64 v.t.nsec) ∧ w'.cell? ⟨w.heap.size, 4, none⟩ = some (.int .i64 v.t.nsig) ∧ w'.cell? ⟨gx, 0, none⟩ = some (.int .i64 q.el) ∧ w'.cell? ⟨gx, 1, none⟩ = some (.int .i64 q.pos) ∧ w'.cell? ⟨gx, 0, none⟩ = some (.int .i64 q.el) ∧ (Bx w w' v ∧ Blk w' gx 99 #[.int .i64 q.el, .int .i64 q.pos]))) (by kernel_rfl) (hss.now (Below.refl _ _).drew) (fun hHeld => ?_)
          refine tkY (i := 0) (oi := .mk _ _ _ _ _ _) (v := ?_) rfl (by kernel_rfl) (fun _ _ _ h => h) (Or.inl ⟨by rfl, ?_⟩) (by assumption) ?_
          rotate_left
          · intro W hSw; (try dsimp only at hSw); go_simp; first | done | with_reducible rfl
          try simp only [Act.put, lsa, lsz, lss]
          refine tkY (i := 1) (oi := .mk _ _ _ _ _ _) (v := ?_) rfl (by kernel_rfl) (fun _ _ _ h => h) (Or.inl ⟨by rfl, ?_⟩) (by assumption) ?_
          rotate_left
          · intro W hSw; (try dsimp only at hSw); go_simp; first | done | with_reducible rfl
          try simp only [Act.put, lsa, lsz, lss]
          refine tkY (i := 2) (oi := .mk _ _ _ _ _ _) (v := ?_) rfl (by kernel_rfl) (fun _ _ _ h => h) (Or.inl ⟨by rfl, ?_⟩) (by assumption) ?_
          rotate_left
          · intro W hSw; (try dsimp only at hSw); go_simp; first | done | with_reducible rfl
          try simp only [Act.put, lsa, lsz, lss]
          refine wpAnyH_ready (rs := [3]) (by kernel_rfl) (by simp) (AllReadyH.cons (o := .mk _ _ _ _ _ _) rfl (fun K hK => ?_) AllReadyH.nil)
          go_simp
          go_at_call 83
          refine (HIX.out true _ HB1.out hHeld).mono ?_
          rintro e wq ⟨⟨n, rfl, hn⟩, hq⟩
          have hq0 : SRe w v gx q gx 0 q.el wq := SRe.now hHeld hq
          go_wp2_with fail
          refine hK.out _ _ ?_ (fun hHeld => ?_)
          · exact hq0
          clear hK K
          try simp only [Act.put, lsa, lsz, lss]
          refine tkY (i := 4) (oi := .mk _ _ _ _ _ _) (v := ?_) rfl (by kernel_rfl) (fun _ _ _ h => h) (Or.inl ⟨by rfl, ?_⟩) (by assumption) ?_
          rotate_left
          · intro W hSw; (try dsimp only at hSw); go_simp; first | done | with_reducible rfl
          try simp only [Act.put, lsa, lsz, lss]
          refine tkY (i := 5) (oi := .mk _ _ _ _ _ _) (v := ?_) rfl (by kernel_rfl) (fun _ _ _ h => h) (Or.inl ⟨by rfl, ?_⟩) (by assumption) ?_
          rotate_left
          · intro W hSw; (try dsimp only at hSw); go_simp; first | done | with_reducible rfl
          try simp only [Act.put, lsa, lsz, lss]
          refine tkY (i := 6) (oi := .mk _ _ _ _ _ _) (v := undef) rfl (by kernel_rfl) (fun _ _ _ h => h) (Or.inr ⟨by rfl, rfl⟩) (by assumption) ?_
          try simp only [Act.put, lsa, lsz, lss]
          refine tkY (i := 7) (oi := .mk _ _ _ _ _ _) (v := undef) rfl (by kernel_rfl) (fun _ _ _ h => h) (Or.inr ⟨by rfl, rfl⟩) (by assumption) ?_
          try simp only [Act.put, lsa, lsz, lss]
          refine tkY (i := 8) (oi := .mk _ _ _ _ _ _) (v := undef) rfl (by kernel_rfl) (fun _ _ _ h => h) (Or.inr ⟨by rfl, rfl⟩) (by assumption) ?_
          try simp only [Act.put, lsa, lsz, lss]
          refine tkY (i := 9) (oi := .mk _ _ _ _ _ _) (v := ?_) rfl (by kernel_rfl) (fun _ _ _ h => h) (Or.inl ⟨by rfl, ?_⟩) (by assumption) ?_
          rotate_left
          · intro W hSw; (try dsimp only at hSw); go_simp; first | done | with_reducible rfl
          try simp only [Act.put, lsa, lsz, lss]
          refine tkY (i := 10) (oi := .mk _ _ _ _ _ _) (v := ?_) rfl (by kernel_rfl) (fun _ _ _ h => h) (Or.inl ⟨by rfl, ?_⟩) (by assumption) ?_
          rotate_left
          · intro W hSw; (try dsimp only at hSw); go_simp; first | done | with_reducible rfl
          try simp only [Act.put, lsa, lsz, lss]
          refine tkY (i := 11) (oi := .mk _ _ _ _ _ _) (v := undef) rfl (by kernel_rfl) (fun _ _ _ h => h) (Or.inr ⟨by rfl, rfl⟩) (by assumption) ?_
          try simp only [Act.put, lsa, lsz, lss]
          refine tkY (i := 12) (oi := .mk _ _ _ _ _ _) (v := undef) rfl (by kernel_rfl) (fun _ _ _ h => h) (Or.inr ⟨by rfl, rfl⟩) (by assumption) ?_
          try simp only [Act.put, lsa, lsz, lss]
          refine tkY (i := 13) (oi := .mk _ _ _ _ _ _) (v := undef) rfl (by kernel_rfl) (fun _ _ _ h => h) (Or.inr ⟨by rfl, rfl⟩) (by assumption) ?_
          try simp only [Act.put, lsa, lsz, lss]
          refine tkY (i := 14) (oi := .mk _ _ _ _ _ _) (v := ?_) rfl (by kernel_rfl) (fun _ _ _ h => h) (Or.inl ⟨by rfl, ?_⟩) (by assumption) ?_
          rotate_left
          · intro W hSw; (try dsimp only at hSw); go_simp; first | done | with_reducible rfl
          try simp only [Act.put, lsa, lsz, lss]
          refine tkY (i := 15) (oi := .mk _ _ _ _ _ _) (v := ?_) rfl (by kernel_rfl) (fun _ _ _ h => h) (Or.inl ⟨by rfl, ?_⟩) (by assumption) ?_
          rotate_left
          · intro W hSw; (try dsimp only at hSw); go_simp; first | done | with_reducible rfl
          try simp only [Act.put, lsa, lsz, lss]
          refine tkY (i := 16) (oi := .mk _ _ _ _ _ _) (v := undef) rfl (by kernel_rfl) (fun _ _ _ h => h) (Or.inr ⟨by rfl, rfl⟩) (by assumption) ?_
          try simp only [Act.put, lsa, lsz, lss]
          refine tkY (i := 17) (oi := .mk _ _ _ _ _ _) (v := undef) rfl (by kernel_rfl) (fun _ _ _ h => h) (Or.inr ⟨by rfl, rfl⟩) (by assumption) ?_
          try simp only [Act.put, lsa, lsz, lss]
          refine tkY (i := 18) (oi := .mk _ _ _ _ _ _) (v := undef) rfl (by kernel_rfl) (fun _ _ _ h => h) (Or.inr ⟨by rfl, rfl⟩) (by assumption) ?_
          try simp only [Act.put, lsa, lsz, lss]
          refine tkY (i := 19) (oi := .mk _ _ _ _ _ _) (v := undef) rfl (by kernel_rfl) (fun _ _ _ h => h) (Or.inr ⟨by rfl, rfl⟩) (by assumption) ?_
          try simp only [Act.put, lsa, lsz, lss]
          refine tkY (i := 20) (oi := .mk _ _ _ _ _ _) (v := undef) rfl (by kernel_rfl) (fun _ _ _ h => h) (Or.inr ⟨by rfl, rfl⟩) (by assumption) ?_
          try simp only [Act.put, lsa, lsz, lss]
          refine tkY (i := 21) (oi := .mk _ _ _ _ _ _) (v := undef) rfl (by kernel_rfl) (fun _ _ _ h => h) (Or.inr ⟨by rfl, rfl⟩) (by assumption) ?_
          try simp only [Act.put, lsa, lsz, lss]
          refine tkY (i := 22) (oi := .mk _ _ _ _ _ _) (v := undef) rfl (by kernel_rfl) (fun _ _ _ h => h) (Or.inr ⟨by rfl, rfl⟩) (by assumption) ?_
          try simp only [Act.put, lsa, lsz, lss]
          refine tkY (i := 23) (oi := .mk _ _ _ _ _ _) (v := undef) rfl (by kernel_rfl) (fun _ _ _ h => h) (Or.inr ⟨by rfl, rfl⟩) (by assumption) ?_
          try simp only [Act.put, lsa, lsz, lss]
          refine tkY (i := 24) (oi := .mk _ _ _ _ _ _) (v := undef) rfl (by kernel_rfl) (fun _ _ _ h => h) (Or.inr ⟨by rfl, rfl⟩) (by assumption) ?_
          try simp only [Act.put, lsa, lsz, lss]
          refine tkY (i := 25) (oi := .mk _ _ _ _ _ _) (v := undef) rfl (by kernel_rfl) (fun _ _ _ h => h) (Or.inr ⟨by rfl, rfl⟩) (by assumption) ?_
          try simp only [Act.put, lsa, lsz, lss]
          refine tkY (i := 26) (oi := .mk _ _ _ _ _ _) (v := undef) rfl (by kernel_rfl) (fun _ _ _ h => h) (Or.inr ⟨by rfl, rfl⟩) (by assumption) ?_
          try simp only [Act.put, lsa, lsz, lss]
          refine tkY (i := 27) (oi := .mk _ _ _ _ _ _) (v := undef) rfl (by kernel_rfl) (fun _ _ _ h => h) (Or.inr ⟨by rfl, rfl⟩) (by assumption) ?_
          try simp only [Act.put, lsa, lsz, lss]
          refine tkY (i := 28) (oi := .mk _ _ _ _ _ _) (v := undef) rfl (by kernel_rfl) (fun _ _ _ h => h) (Or.inr ⟨by rfl, rfl⟩) (by assumption) ?_
          try simp only [Act.put, lsa, lsz, lss]
          refine tkY (i := 29) (oi := .mk _ _ _ _ _ _) (v := ?_) rfl (by kernel_rfl) (fun _ _ _ h => h) (Or.inl ⟨by rfl, ?_⟩) (by assumption) ?_
          rotate_left
          · intro W hSw; (try dsimp only at hSw); go_simp; first | done | with_reducible rfl
          try simp only [Act.put, lsa, lsz, lss]
          refine wpAnyH_done (by kernel_rfl) ?_ _
          have hbz := SRe.all hHeld
          go_wp2_with fail
          go_ret
          exact ⟨ret_b HX.out.symm, hbz.1.bel⟩
        have HB1 : Hid (decide (q.el ∉ v.t.pts) = false) := Lib.hid (by simp [hin])
        by_cases hp1 : q.pos < 1
        · have HX := Lib.hid (HNO.out (st_no3 HGQ.out (by omega) (by omega)))
          have t1 : decide (q.pos < 1) = true := decide_eq_true hp1
          clear HNO HGQ HK hin hp1
          refine wp_region_held_drew (S := (fun w' => w'.cell? ⟨w.heap.size, 0, none⟩ = some (.slice v.A1 v.t.rts.length v.c1) ∧ w'.cell? ⟨w.heap.size, 1, none⟩ = some (.slice v.A2 v.t.pts.length v.c2) ∧ w'.cell? ⟨w.heap.size, 2, none⟩ = some (.slice v.A3 v.t.homes.length v.c3) ∧ w'.cell? ⟨w.heap.size, 3, none⟩ = some (.int .i64 v.t.nsec) ∧ w'.cell? ⟨w.heap.size, 4, none⟩ = some (.int .i64 v.t.nsig) ∧ w'.cell? ⟨gx, 0, none⟩ = some (.int .i64 q.el) ∧ w'.cell? ⟨gx, 1, none⟩ = some (.int .i64 q.pos) ∧ w'.cell? ⟨gx, 0, none⟩ = some (.int .i64 q.el) ∧ (Bx w w' v ∧ Blk w' gx 99 #[.int .i64 q.el, .int .i64 q.pos]))) (by kernel_rfl) (hss.now (Below.refl _ _).drew) (fun hHeld => ?_)
          refine tkY (i := 0) (oi := .mk _ _ _ _ _ _) (v := ?_) rfl (by kernel_rfl) (fun _ _ _ h => h) (Or.inl ⟨by rfl, ?_⟩) (by assumption) ?_
          rotate_left
          · intro W hSw; (try dsimp only at hSw); go_simp; first | done | with_reducible rfl
          try simp only [Act.put, lsa, lsz, lss]
          refine tkY (i := 1) (oi := .mk _ _ _ _ _ _) (v := ?_) rfl (by kernel_rfl) (fun _ _ _ h => h) (Or.inl ⟨by rfl, ?_⟩) (by assumption) ?_
          rotate_left
          · intro W hSw; (try dsimp only at hSw); go_simp; first | done | with_reducible rfl
          try simp only [Act.put, lsa, lsz, lss]
          refine tkY (i := 2) (oi := .mk _ _ _ _ _ _) (v := ?_) rfl (by kernel_rfl) (fun _ _ _ h => h) (Or.inl ⟨by rfl, ?_⟩) (by assumption) ?_
          rotate_left
          · intro W hSw; (try dsimp only at hSw); go_simp; first | done | with_reducible rfl
          try simp only [Act.put, lsa, lsz, lss]
          refine wpAnyH_ready (rs := [3]) (by kernel_rfl) (by simp) (AllReadyH.cons (o := .mk _ _ _ _ _ _) rfl (fun K hK => ?_) AllReadyH.nil)
          go_simp
          go_at_call 83
          refine (HIX.out false _ HB1.out hHeld).mono ?_
          rintro e wq ⟨⟨n, rfl, hn⟩, hq⟩
          have hq0 : SRe w v gx q gx 0 q.el wq := SRe.now hHeld hq
          go_wp2_with fail
          refine hK.out _ _ ?_ (fun hHeld => ?_)
          · exact hq0
          clear hK K
          try simp only [Act.put, lsa, lsz, lss]
          refine tkY (i := 4) (oi := .mk _ _ _ _ _ _) (v := ?_) rfl (by kernel_rfl) (fun _ _ _ h => h) (Or.inl ⟨by rfl, ?_⟩) (by assumption) ?_
          rotate_left
          · intro W hSw; (try dsimp only at hSw); go_simp; first | done | with_reducible rfl
          try simp only [Act.put, lsa, lsz, lss]
          refine tkY (i := 5) (oi := .mk _ _ _ _ _ _) (v := ?_) rfl (by kernel_rfl) (fun _ _ _ h => h) (Or.inl ⟨by rfl, ?_⟩) (by assumption) ?_
          rotate_left
          · intro W hSw; (try dsimp only at hSw); go_simp; first | done | with_reducible rfl
          try simp only [Act.put, lsa, lsz, lss]
          refine tkY (i := 6) (oi := .mk _ _ _ _ _ _) (v := ?_) rfl (by kernel_rfl) (fun _ _ _ h => h) (Or.inl ⟨by rfl, ?_⟩) (by assumption) ?_
          rotate_left
          · intro W hSw; (try dsimp only at hSw); go_simp; first | done | with_reducible rfl
          try simp only [Act.put, lsa, lsz, lss]
          refine tkY (i := 7) (oi := .mk _ _ _ _ _ _) (v := ?_) rfl (by kernel_rfl) (fun _ _ _ h => h) (Or.inl ⟨by rfl, ?_⟩) (by assumption) ?_
          rotate_left
          · intro W hSw; (try dsimp only at hSw); go_simp; first | done | with_reducible rfl
          try simp only [Act.put, lsa, lsz, lss]
          refine tkY (i := 8) (oi := .mk _ _ _ _ _ _) (v := ?_) rfl (by kernel_rfl) (fun _ _ _ h => h) (Or.inl ⟨by rfl, ?_⟩) (by assumption) ?_
          rotate_left
          · intro W hSw; (try dsimp only at hSw); go_simp; first | done | with_reducible rfl
          try simp only [Act.put, lsa, lsz, lss]
          refine tkY (i := 9) (oi := .mk _ _ _ _ _ _) (v := ?_) rfl (by kernel_rfl) (fun _ _ _ h => h) (Or.inl ⟨by rfl, ?_⟩) (by assumption) ?_
          rotate_left
          · intro W hSw; (try dsimp only at hSw); go_simp; first | done | with_reducible rfl
          try simp only [Act.put, lsa, lsz, lss]
          refine tkY (i := 10) (oi := .mk _ _ _ _ _ _) (v := ?_) rfl (by kernel_rfl) (fun _ _ _ h => h) (Or.inl ⟨by rfl, ?_⟩) (by assumption) ?_
          rotate_left
          · intro W hSw; (try dsimp only at hSw); go_simp; first | done | with_reducible rfl
          try simp only [Act.put, lsa, lsz, lss]
          refine tkY (i := 11) (oi := .mk _ _ _ _ _ _) (v := undef) rfl (by kernel_rfl) (fun _ _ _ h => h) (Or.inr ⟨by rfl, rfl⟩) (by assumption) ?_
          try simp only [Act.put, lsa, lsz, lss]
          refine tkY (i := 12) (oi := .mk _ _ _ _ _ _) (v := undef) rfl (by kernel_rfl) (fun _ _ _ h => h) (Or.inr ⟨by rfl, rfl⟩) (by assumption) ?_
          try simp only [Act.put, lsa, lsz, lss]
          refine tkY (i := 13) (oi := .mk _ _ _ _ _ _) (v := undef) rfl (by kernel_rfl) (fun _ _ _ h => h) (Or.inr ⟨by rfl, rfl⟩) (by assumption) ?_
          try simp only [Act.put, lsa, lsz, lss]
          refine tkY (i := 14) (oi := .mk _ _ _ _ _ _) (v := ?_) rfl (by kernel_rfl) (fun _ _ _ h => h) (Or.inl ⟨by rfl, ?_⟩) (by assumption) ?_
          rotate_left
          · intro W hSw; (try dsimp only at hSw); go_simp; first | done | with_reducible rfl
          try simp only [Act.put, lsa, lsz, lss]
          refine tkY (i := 15) (oi := .mk _ _ _ _ _ _) (v := ?_) rfl (by kernel_rfl) (fun _ _ _ h => h) (Or.inl ⟨by rfl, ?_⟩) (by assumption) ?_
          rotate_left
          · intro W hSw; (try dsimp only at hSw); go_simp; first | done | with_reducible rfl
          try simp only [Act.put, lsa, lsz, lss]
          refine tkY (i := 16) (oi := .mk _ _ _ _ _ _) (v := undef) rfl (by kernel_rfl) (fun _ _ _ h => h) (Or.inr ⟨by rfl, rfl⟩) (by assumption) ?_
          try simp only [Act.put, lsa, lsz, lss]
          refine tkY (i := 17) (oi := .mk _ _ _ _ _ _) (v := undef) rfl (by kernel_rfl) (fun _ _ _ h => h) (Or.inr ⟨by rfl, rfl⟩) (by assumption) ?_
          try simp only [Act.put, lsa, lsz, lss]
          refine tkY (i := 18) (oi := .mk _ _ _ _ _ _) (v := undef) rfl (by kernel_rfl) (fun _ _ _ h => h) (Or.inr ⟨by rfl, rfl⟩) (by assumption) ?_
          try simp only [Act.put, lsa, lsz, lss]
          refine tkY (i := 19) (oi := .mk _ _ _ _ _ _) (v := undef) rfl (by kernel_rfl) (fun _ _ _ h => h) (Or.inr ⟨by rfl, rfl⟩) (by assumption) ?_
          try simp only [Act.put, lsa, lsz, lss]
          refine tkY (i := 20) (oi := .mk _ _ _ _ _ _) (v := undef) rfl (by kernel_rfl) (fun _ _ _ h => h) (Or.inr ⟨by rfl, rfl⟩) (by assumption) ?_
          try simp only [Act.put, lsa, lsz, lss]
          refine tkY (i := 21) (oi := .mk _ _ _ _ _ _) (v := undef) rfl (by kernel_rfl) (fun _ _ _ h => h) (Or.inr ⟨by rfl, rfl⟩) (by assumption) ?_
          try simp only [Act.put, lsa, lsz, lss]
          refine tkY (i := 22) (oi := .mk _ _ _ _ _ _) (v := undef) rfl (by kernel_rfl) (fun _ _ _ h => h) (Or.inr ⟨by rfl, rfl⟩) (by assumption) ?_
          try simp only [Act.put, lsa, lsz, lss]
          refine tkY (i := 23) (oi := .mk _ _ _ _ _ _) (v := undef) rfl (by kernel_rfl) (fun _ _ _ h => h) (Or.inr ⟨by rfl, rfl⟩) (by assumption) ?_
          try simp only [Act.put, lsa, lsz, lss]
          refine tkY (i := 24) (oi := .mk _ _ _ _ _ _) (v := undef) rfl (by kernel_rfl) (fun _ _ _ h => h) (Or.inr ⟨by rfl, rfl⟩) (by assumption) ?_
          try simp only [Act.put, lsa, lsz, lss]
          refine tkY (i := 25) (oi := .mk _ _ _ _ _ _) (v := undef) rfl (by kernel_rfl) (fun _ _ _ h => h) (Or.inr ⟨by rfl, rfl⟩) (by assumption) ?_
          try simp only [Act.put, lsa, lsz, lss]
          refine tkY (i := 26) (oi := .mk _ _ _ _ _ _) (v := undef) rfl (by kernel_rfl) (fun _ _ _ h => h) (Or.inr ⟨by rfl, rfl⟩) (by assumption) ?_
          try simp only [Act.put, lsa, lsz, lss]
          refine tkY (i := 27) (oi := .mk _ _ _ _ _ _) (v := undef) rfl (by kernel_rfl) (fun _ _ _ h => h) (Or.inr ⟨by rfl, rfl⟩) (by assumption) ?_
          try simp only [Act.put, lsa, lsz, lss]
          refine tkY (i := 28) (oi := .mk _ _ _ _ _ _) (v := undef) rfl (by kernel_rfl) (fun _ _ _ h => h) (Or.inr ⟨by rfl, rfl⟩) (by assumption) ?_
          try simp only [Act.put, lsa, lsz, lss]
          refine tkY (i := 29) (oi := .mk _ _ _ _ _ _) (v := ?_) rfl (by kernel_rfl) (fun _ _ _ h => h) (Or.inl ⟨by rfl, ?_⟩) (by assumption) ?_
          rotate_left
          · intro W hSw; (try dsimp only at hSw); go_simp; first | done | with_reducible rfl
          try simp only [Act.put, lsa, lsz, lss]
          refine wpAnyH_done (by kernel_rfl) ?_ _
          have hbz := SRe.all hHeld
          go_wp2_with fail
          go_ret
          exact ⟨ret_b HX.out.symm, hbz.1.bel⟩
        have t1 : decide (q.pos < 1) = false := decide_eq_false hp1
        by_cases hp2 : 2 < q.pos
        · have HX := Lib.hid (HNO.out (st_no3 HGQ.out (by omega) (by omega)))
          have t2 : decide (2 < q.pos) = true := decide_eq_true hp2
          clear HNO HGQ HK hin hp1 hp2
          refine wp_region_held_drew (S := (fun w' => w'.cell? ⟨w.heap.size, 0, none⟩ = some (.slice v.A1 v.t.rts.length v.c1) ∧ w'.cell? ⟨w.heap.size, 1, none⟩ = some (.slice v.A2 v.t.pts.length v.c2) ∧ w'.cell? ⟨w.heap.size, 2, none⟩ = some (.slice v.A3 v.t.homes.length v.c3) ∧ w'.cell? ⟨w.heap.size, 3, none⟩ = some (.int .i64 v.t.nsec) ∧ w'.cell? ⟨w.heap.size, 4, none⟩ = some (.int .i64 v.t.nsig) ∧ w'.cell? ⟨gx, 0, none⟩ = some (.int .i64 q.el) ∧ w'.cell? ⟨gx, 1, none⟩ = some (.int .i64 q.pos) ∧ w'.cell? ⟨gx, 0, none⟩ = some (.int .i64 q.el) ∧ (Bx w w' v ∧ Blk w' gx 99 #[.int .i64 q.el, .int .i64 q.pos]))) (by kernel_rfl) (hss.now (Below.refl _ _).drew) (fun hHeld => ?_)
          refine tkY (i := 0) (oi := .mk _ _ _ _ _ _) (v := ?_) rfl (by kernel_rfl) (fun _ _ _ h => h) (Or.inl ⟨by rfl, ?_⟩) (by assumption) ?_
          rotate_left
          · intro W hSw; (try dsimp only at hSw); go_simp; first | done | with_reducible rfl
          try simp only [Act.put, lsa, lsz, lss]
          refine tkY (i := 1) (oi := .mk _ _ _ _ _ _) (v := ?_) rfl (by kernel_rfl) (fun _ _ _ h => h) (Or.inl ⟨by rfl, ?_⟩) (by assumption) ?_
          rotate_left
          · intro W hSw; (try dsimp only at hSw); go_simp; first | done | with_reducible rfl
          try simp only [Act.put, lsa, lsz, lss]
          refine tkY (i := 2) (oi := .mk _ _ _ _ _ _) (v := ?_) rfl (by kernel_rfl) (fun _ _ _ h => h) (Or.inl ⟨by rfl, ?_⟩) (by assumption) ?_
          rotate_left
          · intro W hSw; (try dsimp only at hSw); go_simp; first | done | with_reducible rfl
          try simp only [Act.put, lsa, lsz, lss]
          refine wpAnyH_ready (rs := [3]) (by kernel_rfl) (by simp) (AllReadyH.cons (o := .mk _ _ _ _ _ _) rfl (fun K hK => ?_) AllReadyH.nil)
          go_simp
          go_at_call 83
          refine (HIX.out false _ HB1.out hHeld).mono ?_
          rintro e wq ⟨⟨n, rfl, hn⟩, hq⟩
          have hq0 : SRe w v gx q gx 0 q.el wq := SRe.now hHeld hq
          go_wp2_with fail
          refine hK.out _ _ ?_ (fun hHeld => ?_)
          · exact hq0
          clear hK K
          try simp only [Act.put, lsa, lsz, lss]
          refine tkY (i := 4) (oi := .mk _ _ _ _ _ _) (v := ?_) rfl (by kernel_rfl) (fun _ _ _ h => h) (Or.inl ⟨by rfl, ?_⟩) (by assumption) ?_
          rotate_left
          · intro W hSw; (try dsimp only at hSw); go_simp; first | done | with_reducible rfl
          try simp only [Act.put, lsa, lsz, lss]
          refine tkY (i := 5) (oi := .mk _ _ _ _ _ _) (v := ?_) rfl (by kernel_rfl) (fun _ _ _ h => h) (Or.inl ⟨by rfl, ?_⟩) (by assumption) ?_
          rotate_left
          · intro W hSw; (try dsimp only at hSw); go_simp; first | done | with_reducible rfl
          try simp only [Act.put, lsa, lsz, lss]
          refine tkY (i := 6) (oi := .mk _ _ _ _ _ _) (v := ?_) rfl (by kernel_rfl) (fun _ _ _ h => h) (Or.inl ⟨by rfl, ?_⟩) (by assumption) ?_
          rotate_left
          · intro W hSw; (try dsimp only at hSw); go_simp; first | done | with_reducible rfl
          try simp only [Act.put, lsa, lsz, lss]
          refine tkY (i := 7) (oi := .mk _ _ _ _ _ _) (v := ?_) rfl (by kernel_rfl) (fun _ _ _ h => h) (Or.inl ⟨by rfl, ?_⟩) (by assumption) ?_
          rotate_left
          · intro W hSw; (try dsimp only at hSw); go_simp; first | done | with_reducible rfl
          try simp only [Act.put, lsa, lsz, lss]
          refine tkY (i := 8) (oi := .mk _ _ _ _ _ _) (v := ?_) rfl (by kernel_rfl) (fun _ _ _ h => h) (Or.inl ⟨by rfl, ?_⟩) (by assumption) ?_
          rotate_left
          · intro W hSw; (try dsimp only at hSw); go_simp; first | done | with_reducible rfl
          try simp only [Act.put, lsa, lsz, lss]
          refine tkY (i := 9) (oi := .mk _ _ _ _ _ _) (v := ?_) rfl (by kernel_rfl) (fun _ _ _ h => h) (Or.inl ⟨by rfl, ?_⟩) (by assumption) ?_
          rotate_left
          · intro W hSw; (try dsimp only at hSw); go_simp; first | done | with_reducible rfl
          try simp only [Act.put, lsa, lsz, lss]
          refine tkY (i := 10) (oi := .mk _ _ _ _ _ _) (v := ?_) rfl (by kernel_rfl) (fun _ _ _ h => h) (Or.inl ⟨by rfl, ?_⟩) (by assumption) ?_
          rotate_left
          · intro W hSw; (try dsimp only at hSw); go_simp; first | done | with_reducible rfl
          try simp only [Act.put, lsa, lsz, lss]
          refine tkY (i := 11) (oi := .mk _ _ _ _ _ _) (v := ?_) rfl (by kernel_rfl) (fun _ _ _ h => h) (Or.inl ⟨by rfl, ?_⟩) (by assumption) ?_
          rotate_left
          · intro W hSw; (try dsimp only at hSw); go_simp; first | done | with_reducible rfl
          try simp only [Act.put, lsa, lsz, lss]
          refine tkY (i := 12) (oi := .mk _ _ _ _ _ _) (v := ?_) rfl (by kernel_rfl) (fun _ _ _ h => h) (Or.inl ⟨by rfl, ?_⟩) (by assumption) ?_
          rotate_left
          · intro W hSw; (try dsimp only at hSw); go_simp; first | done | with_reducible rfl
          try simp only [Act.put, lsa, lsz, lss]
          refine tkY (i := 13) (oi := .mk _ _ _ _ _ _) (v := ?_) rfl (by kernel_rfl) (fun _ _ _ h => h) (Or.inl ⟨by rfl, ?_⟩) (by assumption) ?_
          rotate_left
          · intro W hSw; (try dsimp only at hSw); go_simp; first | done | with_reducible rfl
          try simp only [Act.put, lsa, lsz, lss]
          refine tkY (i := 14) (oi := .mk _ _ _ _ _ _) (v := ?_) rfl (by kernel_rfl) (fun _ _ _ h => h) (Or.inl ⟨by rfl, ?_⟩) (by assumption) ?_
          rotate_left
          · intro W hSw; (try dsimp only at hSw); go_simp; first | done | with_reducible rfl
          try simp only [Act.put, lsa, lsz, lss]
          refine tkY (i := 15) (oi := .mk _ _ _ _ _ _) (v := ?_) rfl (by kernel_rfl) (fun _ _ _ h => h) (Or.inl ⟨by rfl, ?_⟩) (by assumption) ?_
          rotate_left
          · intro W hSw; (try dsimp only at hSw); go_simp; first | done | with_reducible rfl
          try simp only [Act.put, lsa, lsz, lss]
          refine tkY (i := 16) (oi := .mk _ _ _ _ _ _) (v := undef) rfl (by kernel_rfl) (fun _ _ _ h => h) (Or.inr ⟨by rfl, rfl⟩) (by assumption) ?_
          try simp only [Act.put, lsa, lsz, lss]
          refine tkY (i := 17) (oi := .mk _ _ _ _ _ _) (v := undef) rfl (by kernel_rfl) (fun _ _ _ h => h) (Or.inr ⟨by rfl, rfl⟩) (by assumption) ?_
          try simp only [Act.put, lsa, lsz, lss]
          refine tkY (i := 18) (oi := .mk _ _ _ _ _ _) (v := undef) rfl (by kernel_rfl) (fun _ _ _ h => h) (Or.inr ⟨by rfl, rfl⟩) (by assumption) ?_
          try simp only [Act.put, lsa, lsz, lss]
          refine tkY (i := 19) (oi := .mk _ _ _ _ _ _) (v := undef) rfl (by kernel_rfl) (fun _ _ _ h => h) (Or.inr ⟨by rfl, rfl⟩) (by assumption) ?_
          try simp only [Act.put, lsa, lsz, lss]
          refine tkY (i := 20) (oi := .mk _ _ _ _ _ _) (v := undef) rfl (by kernel_rfl) (fun _ _ _ h => h) (Or.inr ⟨by rfl, rfl⟩) (by assumption) ?_
          try simp only [Act.put, lsa, lsz, lss]
          refine tkY (i := 21) (oi := .mk _ _ _ _ _ _) (v := undef) rfl (by kernel_rfl) (fun _ _ _ h => h) (Or.inr ⟨by rfl, rfl⟩) (by assumption) ?_
          try simp only [Act.put, lsa, lsz, lss]
          refine tkY (i := 22) (oi := .mk _ _ _ _ _ _) (v := undef) rfl (by kernel_rfl) (fun _ _ _ h => h) (Or.inr ⟨by rfl, rfl⟩) (by assumption) ?_
          try simp only [Act.put, lsa, lsz, lss]
          refine tkY (i := 23) (oi := .mk _ _ _ _ _ _) (v := undef) rfl (by kernel_rfl) (fun _ _ _ h => h) (Or.inr ⟨by rfl, rfl⟩) (by assumption) ?_
          try simp only [Act.put, lsa, lsz, lss]
          refine tkY (i := 24) (oi := .mk _ _ _ _ _ _) (v := undef) rfl (by kernel_rfl) (fun _ _ _ h => h) (Or.inr ⟨by rfl, rfl⟩) (by assumption) ?_
          try simp only [Act.put, lsa, lsz, lss]
          refine tkY (i := 25) (oi := .mk _ _ _ _ _ _) (v := undef) rfl (by kernel_rfl) (fun _ _ _ h => h) (Or.inr ⟨by rfl, rfl⟩) (by assumption) ?_
          try simp only [Act.put, lsa, lsz, lss]
          refine tkY (i := 26) (oi := .mk _ _ _ _ _ _) (v := undef) rfl (by kernel_rfl) (fun _ _ _ h => h) (Or.inr ⟨by rfl, rfl⟩) (by assumption) ?_
          try simp only [Act.put, lsa, lsz, lss]
          refine tkY (i := 27) (oi := .mk _ _ _ _ _ _) (v := undef) rfl (by kernel_rfl) (fun _ _ _ h => h) (Or.inr ⟨by rfl, rfl⟩) (by assumption) ?_
          try simp only [Act.put, lsa, lsz, lss]
          refine tkY (i := 28) (oi := .mk _ _ _ _ _ _) (v := undef) rfl (by kernel_rfl) (fun _ _ _ h => h) (Or.inr ⟨by rfl, rfl⟩) (by assumption) ?_
          try simp only [Act.put, lsa, lsz, lss]
          refine tkY (i := 29) (oi := .mk _ _ _ _ _ _) (v := ?_) rfl (by kernel_rfl) (fun _ _ _ h => h) (Or.inl ⟨by rfl, ?_⟩) (by assumption) ?_
          rotate_left
          · intro W hSw; (try dsimp only at hSw); go_simp; first | done | with_reducible rfl
          try simp only [Act.put, lsa, lsz, lss]
          refine wpAnyH_done (by kernel_rfl) ?_ _
          have hbz := SRe.all hHeld
          go_wp2_with fail
          go_ret
          exact ⟨ret_b HX.out.symm, hbz.1.bel⟩
        have t2 : decide (2 < q.pos) = false := decide_eq_false hp2
        have HX := Lib.hid (upto_succ HK.out (st_yes0 HK0.out HGQ.out hin (by omega)))
        clear HNO HGQ HK hin hp1 hp2
        refine wp_region_held_drew (S := (fun w' => w'.cell? ⟨w.heap.size, 0, none⟩ = some (.slice v.A1 v.t.rts.length v.c1) ∧ w'.cell? ⟨w.heap.size, 1, none⟩ = some (.slice v.A2 v.t.pts.length v.c2) ∧ w'.cell? ⟨w.heap.size, 2, none⟩ = some (.slice v.A3 v.t.homes.length v.c3) ∧ w'.cell? ⟨w.heap.size, 3, none⟩ = some (.int .i64 v.t.nsec) ∧ w'.cell? ⟨w.heap.size, 4, none⟩ = some (.int .i64 v.t.nsig) ∧ w'.cell? ⟨gx, 0, none⟩ = some (.int .i64 q.el) ∧ w'.cell? ⟨gx, 1, none⟩ = some (.int .i64 q.pos) ∧ w'.cell? ⟨gx, 0, none⟩ = some (.int .i64 q.el) ∧ (Bx w w' v ∧ Blk w' gx 99 #[.int .i64 q.el, .int .i64 q.pos]))) (by kernel_rfl) (hss.now (Below.refl _ _).drew) (fun hHeld => ?_)
        refine tkY (i := 0) (oi := .mk _ _ _ _ _ _) (v := ?_) rfl (by kernel_rfl) (fun _ _ _ h => h) (Or.inl ⟨by rfl, ?_⟩) (by assumption) ?_
        rotate_left
        · intro W hSw; (try dsimp only at hSw); go_simp; first | done | with_reducible rfl
        try simp only [Act.put, lsa, lsz, lss]
        refine tkY (i := 1) (oi := .mk _ _ _ _ _ _) (v := ?_) rfl (by kernel_rfl) (fun _ _ _ h => h) (Or.inl ⟨by rfl, ?_⟩) (by assumption) ?_
        rotate_left
        · intro W hSw; (try dsimp only at hSw); go_simp; first | done | with_reducible rfl
        try simp only [Act.put, lsa, lsz, lss]
        refine tkY (i := 2) (oi := .mk _ _ _ _ _ _) (v := ?_) rfl (by kernel_rfl) (fun _ _ _ h => h) (Or.inl ⟨by rfl, ?_⟩) (by assumption) ?_
        rotate_left
        · intro W hSw; (try dsimp only at hSw); go_simp; first | done | with_reducible rfl
        try simp only [Act.put, lsa, lsz, lss]
        refine wpAnyH_ready (rs := [3]) (by kernel_rfl) (by simp) (AllReadyH.cons (o := .mk _ _ _ _ _ _) rfl (fun K hK => ?_) AllReadyH.nil)
        go_simp
        go_at_call 83
        refine (HIX.out false _ HB1.out hHeld).mono ?_
        rintro e wq ⟨⟨n, rfl, hn⟩, hq⟩
        have hq0 : SRe w v gx q gx 0 q.el wq := SRe.now hHeld hq
        go_wp2_with fail
        refine hK.out _ _ ?_ (fun hHeld => ?_)
        · exact hq0
        clear hK K
        try simp only [Act.put, lsa, lsz, lss]
        refine tkY (i := 4) (oi := .mk _ _ _ _ _ _) (v := ?_) rfl (by kernel_rfl) (fun _ _ _ h => h) (Or.inl ⟨by rfl, ?_⟩) (by assumption) ?_
        rotate_left
        · intro W hSw; (try dsimp only at hSw); go_simp; first | done | with_reducible rfl
        try simp only [Act.put, lsa, lsz, lss]
        refine tkY (i := 5) (oi := .mk _ _ _ _ _ _) (v := ?_) rfl (by kernel_rfl) (fun _ _ _ h => h) (Or.inl ⟨by rfl, ?_⟩) (by assumption) ?_
        rotate_left
        · intro W hSw; (try dsimp only at hSw); go_simp; first | done | with_reducible rfl
        try simp only [Act.put, lsa, lsz, lss]
        refine tkY (i := 6) (oi := .mk _ _ _ _ _ _) (v := ?_) rfl (by kernel_rfl) (fun _ _ _ h => h) (Or.inl ⟨by rfl, ?_⟩) (by assumption) ?_
        rotate_left
        · intro W hSw; (try dsimp only at hSw); go_simp; first | done | with_reducible rfl
        try simp only [Act.put, lsa, lsz, lss]
        refine tkY (i := 7) (oi := .mk _ _ _ _ _ _) (v := ?_) rfl (by kernel_rfl) (fun _ _ _ h => h) (Or.inl ⟨by rfl, ?_⟩) (by assumption) ?_
        rotate_left
        · intro W hSw; (try dsimp only at hSw); go_simp; first | done | with_reducible rfl
        try simp only [Act.put, lsa, lsz, lss]
        refine tkY (i := 8) (oi := .mk _ _ _ _ _ _) (v := ?_) rfl (by kernel_rfl) (fun _ _ _ h => h) (Or.inl ⟨by rfl, ?_⟩) (by assumption) ?_
        rotate_left
        · intro W hSw; (try dsimp only at hSw); go_simp; first | done | with_reducible rfl
        try simp only [Act.put, lsa, lsz, lss]
        refine tkY (i := 9) (oi := .mk _ _ _ _ _ _) (v := ?_) rfl (by kernel_rfl) (fun _ _ _ h => h) (Or.inl ⟨by rfl, ?_⟩) (by assumption) ?_
        rotate_left
        · intro W hSw; (try dsimp only at hSw); go_simp; first | done | with_reducible rfl
        try simp only [Act.put, lsa, lsz, lss]
        refine tkY (i := 10) (oi := .mk _ _ _ _ _ _) (v := ?_) rfl (by kernel_rfl) (fun _ _ _ h => h) (Or.inl ⟨by rfl, ?_⟩) (by assumption) ?_
        rotate_left
        · intro W hSw; (try dsimp only at hSw); go_simp; first | done | with_reducible rfl
        try simp only [Act.put, lsa, lsz, lss]
        refine tkY (i := 11) (oi := .mk _ _ _ _ _ _) (v := ?_) rfl (by kernel_rfl) (fun _ _ _ h => h) (Or.inl ⟨by rfl, ?_⟩) (by assumption) ?_
        rotate_left
        · intro W hSw; (try dsimp only at hSw); go_simp; first | done | with_reducible rfl
        try simp only [Act.put, lsa, lsz, lss]
        refine tkY (i := 12) (oi := .mk _ _ _ _ _ _) (v := ?_) rfl (by kernel_rfl) (fun _ _ _ h => h) (Or.inl ⟨by rfl, ?_⟩) (by assumption) ?_
        rotate_left
        · intro W hSw; (try dsimp only at hSw); go_simp; first | done | with_reducible rfl
        try simp only [Act.put, lsa, lsz, lss]
        refine tkY (i := 13) (oi := .mk _ _ _ _ _ _) (v := ?_) rfl (by kernel_rfl) (fun _ _ _ h => h) (Or.inl ⟨by rfl, ?_⟩) (by assumption) ?_
        rotate_left
        · intro W hSw; (try dsimp only at hSw); go_simp; first | done | with_reducible rfl
        try simp only [Act.put, lsa, lsz, lss]
        refine tkY (i := 14) (oi := .mk _ _ _ _ _ _) (v := ?_) rfl (by kernel_rfl) (fun _ _ _ h => h) (Or.inl ⟨by rfl, ?_⟩) (by assumption) ?_
        rotate_left
        · intro W hSw; (try dsimp only at hSw); go_simp; first | done | with_reducible rfl
        try simp only [Act.put, lsa, lsz, lss]
        refine tkY (i := 15) (oi := .mk _ _ _ _ _ _) (v := ?_) rfl (by kernel_rfl) (fun _ _ _ h => h) (Or.inl ⟨by rfl, ?_⟩) (by assumption) ?_
        rotate_left
        · intro W hSw; (try dsimp only at hSw); go_simp; first | done | with_reducible rfl
        try simp only [Act.put, lsa, lsz, lss]
        refine tkY (i := 16) (oi := .mk _ _ _ _ _ _) (v := ?_) rfl (by kernel_rfl) (fun _ _ _ h => h) (Or.inl ⟨by rfl, ?_⟩) (by assumption) ?_
        rotate_left
        · intro W hSw; (try dsimp only at hSw); go_simp; first | done | with_reducible rfl
        try simp only [Act.put, lsa, lsz, lss]
        refine tkY (i := 17) (oi := .mk _ _ _ _ _ _) (v := ?_) rfl (by kernel_rfl) (fun _ _ _ h => h) (Or.inl ⟨by rfl, ?_⟩) (by assumption) ?_
        rotate_left
        · intro W hSw; (try dsimp only at hSw); go_simp; first | done | with_reducible rfl
        try simp only [Act.put, lsa, lsz, lss]
        refine tkY (i := 18) (oi := .mk _ _ _ _ _ _) (v := ?_) rfl (by kernel_rfl) (fun _ _ _ h => h) (Or.inl ⟨by rfl, ?_⟩) (by assumption) ?_
        rotate_left
        · intro W hSw; (try dsimp only at hSw); go_simp; first | done | with_reducible rfl
        try simp only [Act.put, lsa, lsz, lss]
        refine tkY (i := 19) (oi := .mk _ _ _ _ _ _) (v := undef) rfl (by kernel_rfl) (fun _ _ _ h => h) (Or.inr ⟨by rfl, rfl⟩) (by assumption) ?_
        try simp only [Act.put, lsa, lsz, lss]
        refine tkY (i := 20) (oi := .mk _ _ _ _ _ _) (v := undef) rfl (by kernel_rfl) (fun _ _ _ h => h) (Or.inr ⟨by rfl, rfl⟩) (by assumption) ?_
        try simp only [Act.put, lsa, lsz, lss]
        refine tkY (i := 21) (oi := .mk _ _ _ _ _ _) (v := undef) rfl (by kernel_rfl) (fun _ _ _ h => h) (Or.inr ⟨by rfl, rfl⟩) (by assumption) ?_
        try simp only [Act.put, lsa, lsz, lss]
        refine tkY (i := 22) (oi := .mk _ _ _ _ _ _) (v := undef) rfl (by kernel_rfl) (fun _ _ _ h => h) (Or.inr ⟨by rfl, rfl⟩) (by assumption) ?_
        try simp only [Act.put, lsa, lsz, lss]
        refine tkY (i := 23) (oi := .mk _ _ _ _ _ _) (v := undef) rfl (by kernel_rfl) (fun _ _ _ h => h) (Or.inr ⟨by rfl, rfl⟩) (by assumption) ?_
        try simp only [Act.put, lsa, lsz, lss]
        refine tkY (i := 24) (oi := .mk _ _ _ _ _ _) (v := undef) rfl (by kernel_rfl) (fun _ _ _ h => h) (Or.inr ⟨by rfl, rfl⟩) (by assumption) ?_
        try simp only [Act.put, lsa, lsz, lss]
        refine tkY (i := 25) (oi := .mk _ _ _ _ _ _) (v := undef) rfl (by kernel_rfl) (fun _ _ _ h => h) (Or.inr ⟨by rfl, rfl⟩) (by assumption) ?_
        try simp only [Act.put, lsa, lsz, lss]
        refine tkY (i := 26) (oi := .mk _ _ _ _ _ _) (v := undef) rfl (by kernel_rfl) (fun _ _ _ h => h) (Or.inr ⟨by rfl, rfl⟩) (by assumption) ?_
        try simp only [Act.put, lsa, lsz, lss]
        refine tkY (i := 27) (oi := .mk _ _ _ _ _ _) (v := undef) rfl (by kernel_rfl) (fun _ _ _ h => h) (Or.inr ⟨by rfl, rfl⟩) (by assumption) ?_
        try simp only [Act.put, lsa, lsz, lss]
        refine tkY (i := 28) (oi := .mk _ _ _ _ _ _) (v := ?_) rfl (by kernel_rfl) (fun _ _ _ h => h) (Or.inl ⟨by rfl, ?_⟩) (by assumption) ?_
        rotate_left
        · intro W hSw; (try dsimp only at hSw); go_simp; first | done | with_reducible rfl
        try simp only [Act.put, lsa, lsz, lss]
        refine tkY (i := 29) (oi := .mk _ _ _ _ _ _) (v := ?_) rfl (by kernel_rfl) (fun _ _ _ h => h) (Or.inl ⟨by rfl, ?_⟩) (by assumption) ?_
        rotate_left
        · intro W hSw; (try dsimp only at hSw); go_simp; first | done | with_reducible rfl
        try simp only [Act.put, lsa, lsz, lss]
        refine wpAnyH_done (by kernel_rfl) ?_ _
        have hbz := SRe.all hHeld
        go_wp2_with fail
        go_roundw
        case rel => exact ⟨k + 1, by omega, by go_num, hbz.1, HX⟩
        case measure => simp [intOf]; omega
      · have hz0' : decide ((0 : Int) < (k : Int)) = true := by simp; omega
        have hz0n : decide (0 < k) = true := by simp; omega
        have hwk : IntKind.i64.wrap ((k : Int) - 1) = (k : Int) - 1 := IntWalk.i64_in _ (by omega)
        have hzp : (0 : Int) < (k : Int) := by omega
        have hz1 : (1 : Int) ≤ (k : Int) := by omega
        have hz2 : 1 ≤ k := by omega
        have hz3 : 0 < k := by omega
        have hz4 : (0 : Int) ≤ (k : Int) - 1 := by omega
        have hkm : (k : Int) - 1 < (l.length : Int) := by omega
        have hkt : ((k : Int) - 1).toNat = k - 1 := by omega
        have HJ := Lib.hid hj
        have HGP := Lib.hid hp
        clear hj hp
        go_wp2_with fail
        generalize wr.alloc (.cells #[.int .i64 q.el, .int .i64 q.pos] 99) = W0 at *
        generalize wr.heap.size = gx at *
        clear y0 y1 hb hba lb
        have HIX : Hid (∀ (bb : Bool) W, decide (q.el ∉ v.t.pts) = bb → SRe w v gx q b (off + (k - 1) * 2) p.el W → Calls Tryz.prog 83 #[.agg #[.slice v.A1 v.t.rts.length v.c1, .slice v.A2 v.t.pts.length v.c2, .slice v.A3 v.t.homes.length v.c3, .int .i64 v.t.nsec, .int .i64 v.t.nsig], .int .i64 q.el] W fun e w' => (∃ n : Int, e = .returned (.int .i64 n) ∧ decide (n < 0) = bb) ∧ Below W.heap.size W w') := Lib.hid fun bb W hb h => rIndexC v q.el bb hb W h.all.1.rd
        by_cases hin : q.el ∈ v.t.pts
        case neg =>
          have HB1 : Hid (decide (q.el ∉ v.t.pts) = true) := Lib.hid (by simp [hin])
          have HX := Lib.hid (HNO.out (st_no2 HGQ.out hin))
          clear HNO HGQ HK hin
          refine wp_region_held_drew (S := (fun w' => w'.cell? ⟨w.heap.size, 0, none⟩ = some (.slice v.A1 v.t.rts.length v.c1) ∧ w'.cell? ⟨w.heap.size, 1, none⟩ = some (.slice v.A2 v.t.pts.length v.c2) ∧ w'.cell? ⟨w.heap.size, 2, none⟩ = some (.slice v.A3 v.t.homes.length v.c3) ∧ w'.cell? ⟨w.heap.size, 3, none⟩ = some (.int .i64 v.t.nsec) ∧ w'.cell? ⟨w.heap.size, 4, none⟩ = some (.int .i64 v.t.nsig) ∧ w'.cell? ⟨gx, 0, none⟩ = some (.int .i64 q.el) ∧ w'.cell? ⟨gx, 1, none⟩ = some (.int .i64 q.pos) ∧ w'.cell? ⟨b, off + (k - 1) * 2, none⟩ = some (.int .i64 p.el) ∧ (Bx w w' v ∧ Blk w' gx 99 #[.int .i64 q.el, .int .i64 q.pos]))) (by kernel_rfl) (hss.now (Below.refl _ _).drew) (fun hHeld => ?_)
          refine tkY (i := 0) (oi := .mk _ _ _ _ _ _) (v := ?_) rfl (by kernel_rfl) (fun _ _ _ h => h) (Or.inl ⟨by rfl, ?_⟩) (by assumption) ?_
          rotate_left
          · intro W hSw; (try dsimp only at hSw); go_simp; first | done | with_reducible rfl
          try simp only [Act.put, lsa, lsz, lss]
          refine tkY (i := 1) (oi := .mk _ _ _ _ _ _) (v := ?_) rfl (by kernel_rfl) (fun _ _ _ h => h) (Or.inl ⟨by rfl, ?_⟩) (by assumption) ?_
          rotate_left
          · intro W hSw; (try dsimp only at hSw); go_simp; first | done | with_reducible rfl
          try simp only [Act.put, lsa, lsz, lss]
          refine tkY (i := 2) (oi := .mk _ _ _ _ _ _) (v := ?_) rfl (by kernel_rfl) (fun _ _ _ h => h) (Or.inl ⟨by rfl, ?_⟩) (by assumption) ?_
          rotate_left
          · intro W hSw; (try dsimp only at hSw); go_simp; first | done | with_reducible rfl
          try simp only [Act.put, lsa, lsz, lss]
          refine wpAnyH_ready (rs := [3]) (by kernel_rfl) (by simp) (AllReadyH.cons (o := .mk _ _ _ _ _ _) rfl (fun K hK => ?_) AllReadyH.nil)
          go_simp
          go_at_call 83
          refine (HIX.out true _ HB1.out hHeld).mono ?_
          rintro e wq ⟨⟨n, rfl, hn⟩, hq⟩
          have hq0 : SRe w v gx q b (off + (k - 1) * 2) p.el wq := SRe.now hHeld hq
          go_wp2_with fail
          refine hK.out _ _ ?_ (fun hHeld => ?_)
          · exact hq0
          clear hK K
          try simp only [Act.put, lsa, lsz, lss]
          refine tkY (i := 4) (oi := .mk _ _ _ _ _ _) (v := ?_) rfl (by kernel_rfl) (fun _ _ _ h => h) (Or.inl ⟨by rfl, ?_⟩) (by assumption) ?_
          rotate_left
          · intro W hSw; (try dsimp only at hSw); go_simp; first | done | with_reducible rfl
          try simp only [Act.put, lsa, lsz, lss]
          refine tkY (i := 5) (oi := .mk _ _ _ _ _ _) (v := ?_) rfl (by kernel_rfl) (fun _ _ _ h => h) (Or.inl ⟨by rfl, ?_⟩) (by assumption) ?_
          rotate_left
          · intro W hSw; (try dsimp only at hSw); go_simp; first | done | with_reducible rfl
          try simp only [Act.put, lsa, lsz, lss]
          refine tkY (i := 6) (oi := .mk _ _ _ _ _ _) (v := undef) rfl (by kernel_rfl) (fun _ _ _ h => h) (Or.inr ⟨by rfl, rfl⟩) (by assumption) ?_
          try simp only [Act.put, lsa, lsz, lss]
          refine tkY (i := 7) (oi := .mk _ _ _ _ _ _) (v := undef) rfl (by kernel_rfl) (fun _ _ _ h => h) (Or.inr ⟨by rfl, rfl⟩) (by assumption) ?_
          try simp only [Act.put, lsa, lsz, lss]
          refine tkY (i := 8) (oi := .mk _ _ _ _ _ _) (v := undef) rfl (by kernel_rfl) (fun _ _ _ h => h) (Or.inr ⟨by rfl, rfl⟩) (by assumption) ?_
          try simp only [Act.put, lsa, lsz, lss]
          refine tkY (i := 9) (oi := .mk _ _ _ _ _ _) (v := ?_) rfl (by kernel_rfl) (fun _ _ _ h => h) (Or.inl ⟨by rfl, ?_⟩) (by assumption) ?_
          rotate_left
          · intro W hSw; (try dsimp only at hSw); go_simp; first | done | with_reducible rfl
          try simp only [Act.put, lsa, lsz, lss]
          refine tkY (i := 10) (oi := .mk _ _ _ _ _ _) (v := ?_) rfl (by kernel_rfl) (fun _ _ _ h => h) (Or.inl ⟨by rfl, ?_⟩) (by assumption) ?_
          rotate_left
          · intro W hSw; (try dsimp only at hSw); go_simp; first | done | with_reducible rfl
          try simp only [Act.put, lsa, lsz, lss]
          refine tkY (i := 11) (oi := .mk _ _ _ _ _ _) (v := undef) rfl (by kernel_rfl) (fun _ _ _ h => h) (Or.inr ⟨by rfl, rfl⟩) (by assumption) ?_
          try simp only [Act.put, lsa, lsz, lss]
          refine tkY (i := 12) (oi := .mk _ _ _ _ _ _) (v := undef) rfl (by kernel_rfl) (fun _ _ _ h => h) (Or.inr ⟨by rfl, rfl⟩) (by assumption) ?_
          try simp only [Act.put, lsa, lsz, lss]
          refine tkY (i := 13) (oi := .mk _ _ _ _ _ _) (v := undef) rfl (by kernel_rfl) (fun _ _ _ h => h) (Or.inr ⟨by rfl, rfl⟩) (by assumption) ?_
          try simp only [Act.put, lsa, lsz, lss]
          refine tkY (i := 14) (oi := .mk _ _ _ _ _ _) (v := ?_) rfl (by kernel_rfl) (fun _ _ _ h => h) (Or.inl ⟨by rfl, ?_⟩) (by assumption) ?_
          rotate_left
          · intro W hSw; (try dsimp only at hSw); go_simp; first | done | with_reducible rfl
          try simp only [Act.put, lsa, lsz, lss]
          refine tkY (i := 15) (oi := .mk _ _ _ _ _ _) (v := ?_) rfl (by kernel_rfl) (fun _ _ _ h => h) (Or.inl ⟨by rfl, ?_⟩) (by assumption) ?_
          rotate_left
          · intro W hSw; (try dsimp only at hSw); go_simp; first | done | with_reducible rfl
          try simp only [Act.put, lsa, lsz, lss]
          refine tkY (i := 16) (oi := .mk _ _ _ _ _ _) (v := undef) rfl (by kernel_rfl) (fun _ _ _ h => h) (Or.inr ⟨by rfl, rfl⟩) (by assumption) ?_
          try simp only [Act.put, lsa, lsz, lss]
          refine tkY (i := 17) (oi := .mk _ _ _ _ _ _) (v := undef) rfl (by kernel_rfl) (fun _ _ _ h => h) (Or.inr ⟨by rfl, rfl⟩) (by assumption) ?_
          try simp only [Act.put, lsa, lsz, lss]
          refine tkY (i := 18) (oi := .mk _ _ _ _ _ _) (v := undef) rfl (by kernel_rfl) (fun _ _ _ h => h) (Or.inr ⟨by rfl, rfl⟩) (by assumption) ?_
          try simp only [Act.put, lsa, lsz, lss]
          refine tkY (i := 19) (oi := .mk _ _ _ _ _ _) (v := undef) rfl (by kernel_rfl) (fun _ _ _ h => h) (Or.inr ⟨by rfl, rfl⟩) (by assumption) ?_
          try simp only [Act.put, lsa, lsz, lss]
          refine tkY (i := 20) (oi := .mk _ _ _ _ _ _) (v := undef) rfl (by kernel_rfl) (fun _ _ _ h => h) (Or.inr ⟨by rfl, rfl⟩) (by assumption) ?_
          try simp only [Act.put, lsa, lsz, lss]
          refine tkY (i := 21) (oi := .mk _ _ _ _ _ _) (v := undef) rfl (by kernel_rfl) (fun _ _ _ h => h) (Or.inr ⟨by rfl, rfl⟩) (by assumption) ?_
          try simp only [Act.put, lsa, lsz, lss]
          refine tkY (i := 22) (oi := .mk _ _ _ _ _ _) (v := undef) rfl (by kernel_rfl) (fun _ _ _ h => h) (Or.inr ⟨by rfl, rfl⟩) (by assumption) ?_
          try simp only [Act.put, lsa, lsz, lss]
          refine tkY (i := 23) (oi := .mk _ _ _ _ _ _) (v := undef) rfl (by kernel_rfl) (fun _ _ _ h => h) (Or.inr ⟨by rfl, rfl⟩) (by assumption) ?_
          try simp only [Act.put, lsa, lsz, lss]
          refine tkY (i := 24) (oi := .mk _ _ _ _ _ _) (v := undef) rfl (by kernel_rfl) (fun _ _ _ h => h) (Or.inr ⟨by rfl, rfl⟩) (by assumption) ?_
          try simp only [Act.put, lsa, lsz, lss]
          refine tkY (i := 25) (oi := .mk _ _ _ _ _ _) (v := undef) rfl (by kernel_rfl) (fun _ _ _ h => h) (Or.inr ⟨by rfl, rfl⟩) (by assumption) ?_
          try simp only [Act.put, lsa, lsz, lss]
          refine tkY (i := 26) (oi := .mk _ _ _ _ _ _) (v := undef) rfl (by kernel_rfl) (fun _ _ _ h => h) (Or.inr ⟨by rfl, rfl⟩) (by assumption) ?_
          try simp only [Act.put, lsa, lsz, lss]
          refine tkY (i := 27) (oi := .mk _ _ _ _ _ _) (v := undef) rfl (by kernel_rfl) (fun _ _ _ h => h) (Or.inr ⟨by rfl, rfl⟩) (by assumption) ?_
          try simp only [Act.put, lsa, lsz, lss]
          refine tkY (i := 28) (oi := .mk _ _ _ _ _ _) (v := undef) rfl (by kernel_rfl) (fun _ _ _ h => h) (Or.inr ⟨by rfl, rfl⟩) (by assumption) ?_
          try simp only [Act.put, lsa, lsz, lss]
          refine tkY (i := 29) (oi := .mk _ _ _ _ _ _) (v := ?_) rfl (by kernel_rfl) (fun _ _ _ h => h) (Or.inl ⟨by rfl, ?_⟩) (by assumption) ?_
          rotate_left
          · intro W hSw; (try dsimp only at hSw); go_simp; first | done | with_reducible rfl
          try simp only [Act.put, lsa, lsz, lss]
          refine wpAnyH_done (by kernel_rfl) ?_ _
          have hbz := SRe.all hHeld
          go_wp2_with fail
          go_ret
          exact ⟨ret_b HX.out.symm, hbz.1.bel⟩
        have HB1 : Hid (decide (q.el ∉ v.t.pts) = false) := Lib.hid (by simp [hin])
        by_cases hp1 : q.pos < 1
        · have HX := Lib.hid (HNO.out (st_no3 HGQ.out (by omega) (by omega)))
          have t1 : decide (q.pos < 1) = true := decide_eq_true hp1
          clear HNO HGQ HK hin hp1
          refine wp_region_held_drew (S := (fun w' => w'.cell? ⟨w.heap.size, 0, none⟩ = some (.slice v.A1 v.t.rts.length v.c1) ∧ w'.cell? ⟨w.heap.size, 1, none⟩ = some (.slice v.A2 v.t.pts.length v.c2) ∧ w'.cell? ⟨w.heap.size, 2, none⟩ = some (.slice v.A3 v.t.homes.length v.c3) ∧ w'.cell? ⟨w.heap.size, 3, none⟩ = some (.int .i64 v.t.nsec) ∧ w'.cell? ⟨w.heap.size, 4, none⟩ = some (.int .i64 v.t.nsig) ∧ w'.cell? ⟨gx, 0, none⟩ = some (.int .i64 q.el) ∧ w'.cell? ⟨gx, 1, none⟩ = some (.int .i64 q.pos) ∧ w'.cell? ⟨b, off + (k - 1) * 2, none⟩ = some (.int .i64 p.el) ∧ (Bx w w' v ∧ Blk w' gx 99 #[.int .i64 q.el, .int .i64 q.pos]))) (by kernel_rfl) (hss.now (Below.refl _ _).drew) (fun hHeld => ?_)
          refine tkY (i := 0) (oi := .mk _ _ _ _ _ _) (v := ?_) rfl (by kernel_rfl) (fun _ _ _ h => h) (Or.inl ⟨by rfl, ?_⟩) (by assumption) ?_
          rotate_left
          · intro W hSw; (try dsimp only at hSw); go_simp; first | done | with_reducible rfl
          try simp only [Act.put, lsa, lsz, lss]
          refine tkY (i := 1) (oi := .mk _ _ _ _ _ _) (v := ?_) rfl (by kernel_rfl) (fun _ _ _ h => h) (Or.inl ⟨by rfl, ?_⟩) (by assumption) ?_
          rotate_left
          · intro W hSw; (try dsimp only at hSw); go_simp; first | done | with_reducible rfl
          try simp only [Act.put, lsa, lsz, lss]
          refine tkY (i := 2) (oi := .mk _ _ _ _ _ _) (v := ?_) rfl (by kernel_rfl) (fun _ _ _ h => h) (Or.inl ⟨by rfl, ?_⟩) (by assumption) ?_
          rotate_left
          · intro W hSw; (try dsimp only at hSw); go_simp; first | done | with_reducible rfl
          try simp only [Act.put, lsa, lsz, lss]
          refine wpAnyH_ready (rs := [3]) (by kernel_rfl) (by simp) (AllReadyH.cons (o := .mk _ _ _ _ _ _) rfl (fun K hK => ?_) AllReadyH.nil)
          go_simp
          go_at_call 83
          refine (HIX.out false _ HB1.out hHeld).mono ?_
          rintro e wq ⟨⟨n, rfl, hn⟩, hq⟩
          have hq0 : SRe w v gx q b (off + (k - 1) * 2) p.el wq := SRe.now hHeld hq
          go_wp2_with fail
          refine hK.out _ _ ?_ (fun hHeld => ?_)
          · exact hq0
          clear hK K
          try simp only [Act.put, lsa, lsz, lss]
          refine tkY (i := 4) (oi := .mk _ _ _ _ _ _) (v := ?_) rfl (by kernel_rfl) (fun _ _ _ h => h) (Or.inl ⟨by rfl, ?_⟩) (by assumption) ?_
          rotate_left
          · intro W hSw; (try dsimp only at hSw); go_simp; first | done | with_reducible rfl
          try simp only [Act.put, lsa, lsz, lss]
          refine tkY (i := 5) (oi := .mk _ _ _ _ _ _) (v := ?_) rfl (by kernel_rfl) (fun _ _ _ h => h) (Or.inl ⟨by rfl, ?_⟩) (by assumption) ?_
          rotate_left
          · intro W hSw; (try dsimp only at hSw); go_simp; first | done | with_reducible rfl
          try simp only [Act.put, lsa, lsz, lss]
          refine tkY (i := 6) (oi := .mk _ _ _ _ _ _) (v := ?_) rfl (by kernel_rfl) (fun _ _ _ h => h) (Or.inl ⟨by rfl, ?_⟩) (by assumption) ?_
          rotate_left
          · intro W hSw; (try dsimp only at hSw); go_simp; first | done | with_reducible rfl
          try simp only [Act.put, lsa, lsz, lss]
          refine tkY (i := 7) (oi := .mk _ _ _ _ _ _) (v := ?_) rfl (by kernel_rfl) (fun _ _ _ h => h) (Or.inl ⟨by rfl, ?_⟩) (by assumption) ?_
          rotate_left
          · intro W hSw; (try dsimp only at hSw); go_simp; first | done | with_reducible rfl
          try simp only [Act.put, lsa, lsz, lss]
          refine tkY (i := 8) (oi := .mk _ _ _ _ _ _) (v := ?_) rfl (by kernel_rfl) (fun _ _ _ h => h) (Or.inl ⟨by rfl, ?_⟩) (by assumption) ?_
          rotate_left
          · intro W hSw; (try dsimp only at hSw); go_simp; first | done | with_reducible rfl
          try simp only [Act.put, lsa, lsz, lss]
          refine tkY (i := 9) (oi := .mk _ _ _ _ _ _) (v := ?_) rfl (by kernel_rfl) (fun _ _ _ h => h) (Or.inl ⟨by rfl, ?_⟩) (by assumption) ?_
          rotate_left
          · intro W hSw; (try dsimp only at hSw); go_simp; first | done | with_reducible rfl
          try simp only [Act.put, lsa, lsz, lss]
          refine tkY (i := 10) (oi := .mk _ _ _ _ _ _) (v := ?_) rfl (by kernel_rfl) (fun _ _ _ h => h) (Or.inl ⟨by rfl, ?_⟩) (by assumption) ?_
          rotate_left
          · intro W hSw; (try dsimp only at hSw); go_simp; first | done | with_reducible rfl
          try simp only [Act.put, lsa, lsz, lss]
          refine tkY (i := 11) (oi := .mk _ _ _ _ _ _) (v := undef) rfl (by kernel_rfl) (fun _ _ _ h => h) (Or.inr ⟨by rfl, rfl⟩) (by assumption) ?_
          try simp only [Act.put, lsa, lsz, lss]
          refine tkY (i := 12) (oi := .mk _ _ _ _ _ _) (v := undef) rfl (by kernel_rfl) (fun _ _ _ h => h) (Or.inr ⟨by rfl, rfl⟩) (by assumption) ?_
          try simp only [Act.put, lsa, lsz, lss]
          refine tkY (i := 13) (oi := .mk _ _ _ _ _ _) (v := undef) rfl (by kernel_rfl) (fun _ _ _ h => h) (Or.inr ⟨by rfl, rfl⟩) (by assumption) ?_
          try simp only [Act.put, lsa, lsz, lss]
          refine tkY (i := 14) (oi := .mk _ _ _ _ _ _) (v := ?_) rfl (by kernel_rfl) (fun _ _ _ h => h) (Or.inl ⟨by rfl, ?_⟩) (by assumption) ?_
          rotate_left
          · intro W hSw; (try dsimp only at hSw); go_simp; first | done | with_reducible rfl
          try simp only [Act.put, lsa, lsz, lss]
          refine tkY (i := 15) (oi := .mk _ _ _ _ _ _) (v := ?_) rfl (by kernel_rfl) (fun _ _ _ h => h) (Or.inl ⟨by rfl, ?_⟩) (by assumption) ?_
          rotate_left
          · intro W hSw; (try dsimp only at hSw); go_simp; first | done | with_reducible rfl
          try simp only [Act.put, lsa, lsz, lss]
          refine tkY (i := 16) (oi := .mk _ _ _ _ _ _) (v := undef) rfl (by kernel_rfl) (fun _ _ _ h => h) (Or.inr ⟨by rfl, rfl⟩) (by assumption) ?_
          try simp only [Act.put, lsa, lsz, lss]
          refine tkY (i := 17) (oi := .mk _ _ _ _ _ _) (v := undef) rfl (by kernel_rfl) (fun _ _ _ h => h) (Or.inr ⟨by rfl, rfl⟩) (by assumption) ?_
          try simp only [Act.put, lsa, lsz, lss]
          refine tkY (i := 18) (oi := .mk _ _ _ _ _ _) (v := undef) rfl (by kernel_rfl) (fun _ _ _ h => h) (Or.inr ⟨by rfl, rfl⟩) (by assumption) ?_
          try simp only [Act.put, lsa, lsz, lss]
          refine tkY (i := 19) (oi := .mk _ _ _ _ _ _) (v := undef) rfl (by kernel_rfl) (fun _ _ _ h => h) (Or.inr ⟨by rfl, rfl⟩) (by assumption) ?_
          try simp only [Act.put, lsa, lsz, lss]
          refine tkY (i := 20) (oi := .mk _ _ _ _ _ _) (v := undef) rfl (by kernel_rfl) (fun _ _ _ h => h) (Or.inr ⟨by rfl, rfl⟩) (by assumption) ?_
          try simp only [Act.put, lsa, lsz, lss]
          refine tkY (i := 21) (oi := .mk _ _ _ _ _ _) (v := undef) rfl (by kernel_rfl) (fun _ _ _ h => h) (Or.inr ⟨by rfl, rfl⟩) (by assumption) ?_
          try simp only [Act.put, lsa, lsz, lss]
          refine tkY (i := 22) (oi := .mk _ _ _ _ _ _) (v := undef) rfl (by kernel_rfl) (fun _ _ _ h => h) (Or.inr ⟨by rfl, rfl⟩) (by assumption) ?_
          try simp only [Act.put, lsa, lsz, lss]
          refine tkY (i := 23) (oi := .mk _ _ _ _ _ _) (v := undef) rfl (by kernel_rfl) (fun _ _ _ h => h) (Or.inr ⟨by rfl, rfl⟩) (by assumption) ?_
          try simp only [Act.put, lsa, lsz, lss]
          refine tkY (i := 24) (oi := .mk _ _ _ _ _ _) (v := undef) rfl (by kernel_rfl) (fun _ _ _ h => h) (Or.inr ⟨by rfl, rfl⟩) (by assumption) ?_
          try simp only [Act.put, lsa, lsz, lss]
          refine tkY (i := 25) (oi := .mk _ _ _ _ _ _) (v := undef) rfl (by kernel_rfl) (fun _ _ _ h => h) (Or.inr ⟨by rfl, rfl⟩) (by assumption) ?_
          try simp only [Act.put, lsa, lsz, lss]
          refine tkY (i := 26) (oi := .mk _ _ _ _ _ _) (v := undef) rfl (by kernel_rfl) (fun _ _ _ h => h) (Or.inr ⟨by rfl, rfl⟩) (by assumption) ?_
          try simp only [Act.put, lsa, lsz, lss]
          refine tkY (i := 27) (oi := .mk _ _ _ _ _ _) (v := undef) rfl (by kernel_rfl) (fun _ _ _ h => h) (Or.inr ⟨by rfl, rfl⟩) (by assumption) ?_
          try simp only [Act.put, lsa, lsz, lss]
          refine tkY (i := 28) (oi := .mk _ _ _ _ _ _) (v := undef) rfl (by kernel_rfl) (fun _ _ _ h => h) (Or.inr ⟨by rfl, rfl⟩) (by assumption) ?_
          try simp only [Act.put, lsa, lsz, lss]
          refine tkY (i := 29) (oi := .mk _ _ _ _ _ _) (v := ?_) rfl (by kernel_rfl) (fun _ _ _ h => h) (Or.inl ⟨by rfl, ?_⟩) (by assumption) ?_
          rotate_left
          · intro W hSw; (try dsimp only at hSw); go_simp; first | done | with_reducible rfl
          try simp only [Act.put, lsa, lsz, lss]
          refine wpAnyH_done (by kernel_rfl) ?_ _
          have hbz := SRe.all hHeld
          go_wp2_with fail
          go_ret
          exact ⟨ret_b HX.out.symm, hbz.1.bel⟩
        have t1 : decide (q.pos < 1) = false := decide_eq_false hp1
        by_cases hp2 : 2 < q.pos
        · have HX := Lib.hid (HNO.out (st_no3 HGQ.out (by omega) (by omega)))
          have t2 : decide (2 < q.pos) = true := decide_eq_true hp2
          clear HNO HGQ HK hin hp1 hp2
          refine wp_region_held_drew (S := (fun w' => w'.cell? ⟨w.heap.size, 0, none⟩ = some (.slice v.A1 v.t.rts.length v.c1) ∧ w'.cell? ⟨w.heap.size, 1, none⟩ = some (.slice v.A2 v.t.pts.length v.c2) ∧ w'.cell? ⟨w.heap.size, 2, none⟩ = some (.slice v.A3 v.t.homes.length v.c3) ∧ w'.cell? ⟨w.heap.size, 3, none⟩ = some (.int .i64 v.t.nsec) ∧ w'.cell? ⟨w.heap.size, 4, none⟩ = some (.int .i64 v.t.nsig) ∧ w'.cell? ⟨gx, 0, none⟩ = some (.int .i64 q.el) ∧ w'.cell? ⟨gx, 1, none⟩ = some (.int .i64 q.pos) ∧ w'.cell? ⟨b, off + (k - 1) * 2, none⟩ = some (.int .i64 p.el) ∧ (Bx w w' v ∧ Blk w' gx 99 #[.int .i64 q.el, .int .i64 q.pos]))) (by kernel_rfl) (hss.now (Below.refl _ _).drew) (fun hHeld => ?_)
          refine tkY (i := 0) (oi := .mk _ _ _ _ _ _) (v := ?_) rfl (by kernel_rfl) (fun _ _ _ h => h) (Or.inl ⟨by rfl, ?_⟩) (by assumption) ?_
          rotate_left
          · intro W hSw; (try dsimp only at hSw); go_simp; first | done | with_reducible rfl
          try simp only [Act.put, lsa, lsz, lss]
          refine tkY (i := 1) (oi := .mk _ _ _ _ _ _) (v := ?_) rfl (by kernel_rfl) (fun _ _ _ h => h) (Or.inl ⟨by rfl, ?_⟩) (by assumption) ?_
          rotate_left
          · intro W hSw; (try dsimp only at hSw); go_simp; first | done | with_reducible rfl
          try simp only [Act.put, lsa, lsz, lss]
          refine tkY (i := 2) (oi := .mk _ _ _ _ _ _) (v := ?_) rfl (by kernel_rfl) (fun _ _ _ h => h) (Or.inl ⟨by rfl, ?_⟩) (by assumption) ?_
          rotate_left
          · intro W hSw; (try dsimp only at hSw); go_simp; first | done | with_reducible rfl
          try simp only [Act.put, lsa, lsz, lss]
          refine wpAnyH_ready (rs := [3]) (by kernel_rfl) (by simp) (AllReadyH.cons (o := .mk _ _ _ _ _ _) rfl (fun K hK => ?_) AllReadyH.nil)
          go_simp
          go_at_call 83
          refine (HIX.out false _ HB1.out hHeld).mono ?_
          rintro e wq ⟨⟨n, rfl, hn⟩, hq⟩
          have hq0 : SRe w v gx q b (off + (k - 1) * 2) p.el wq := SRe.now hHeld hq
          go_wp2_with fail
          refine hK.out _ _ ?_ (fun hHeld => ?_)
          · exact hq0
          clear hK K
          try simp only [Act.put, lsa, lsz, lss]
          refine tkY (i := 4) (oi := .mk _ _ _ _ _ _) (v := ?_) rfl (by kernel_rfl) (fun _ _ _ h => h) (Or.inl ⟨by rfl, ?_⟩) (by assumption) ?_
          rotate_left
          · intro W hSw; (try dsimp only at hSw); go_simp; first | done | with_reducible rfl
          try simp only [Act.put, lsa, lsz, lss]
          refine tkY (i := 5) (oi := .mk _ _ _ _ _ _) (v := ?_) rfl (by kernel_rfl) (fun _ _ _ h => h) (Or.inl ⟨by rfl, ?_⟩) (by assumption) ?_
          rotate_left
          · intro W hSw; (try dsimp only at hSw); go_simp; first | done | with_reducible rfl
          try simp only [Act.put, lsa, lsz, lss]
          refine tkY (i := 6) (oi := .mk _ _ _ _ _ _) (v := ?_) rfl (by kernel_rfl) (fun _ _ _ h => h) (Or.inl ⟨by rfl, ?_⟩) (by assumption) ?_
          rotate_left
          · intro W hSw; (try dsimp only at hSw); go_simp; first | done | with_reducible rfl
          try simp only [Act.put, lsa, lsz, lss]
          refine tkY (i := 7) (oi := .mk _ _ _ _ _ _) (v := ?_) rfl (by kernel_rfl) (fun _ _ _ h => h) (Or.inl ⟨by rfl, ?_⟩) (by assumption) ?_
          rotate_left
          · intro W hSw; (try dsimp only at hSw); go_simp; first | done | with_reducible rfl
          try simp only [Act.put, lsa, lsz, lss]
          refine tkY (i := 8) (oi := .mk _ _ _ _ _ _) (v := ?_) rfl (by kernel_rfl) (fun _ _ _ h => h) (Or.inl ⟨by rfl, ?_⟩) (by assumption) ?_
          rotate_left
          · intro W hSw; (try dsimp only at hSw); go_simp; first | done | with_reducible rfl
          try simp only [Act.put, lsa, lsz, lss]
          refine tkY (i := 9) (oi := .mk _ _ _ _ _ _) (v := ?_) rfl (by kernel_rfl) (fun _ _ _ h => h) (Or.inl ⟨by rfl, ?_⟩) (by assumption) ?_
          rotate_left
          · intro W hSw; (try dsimp only at hSw); go_simp; first | done | with_reducible rfl
          try simp only [Act.put, lsa, lsz, lss]
          refine tkY (i := 10) (oi := .mk _ _ _ _ _ _) (v := ?_) rfl (by kernel_rfl) (fun _ _ _ h => h) (Or.inl ⟨by rfl, ?_⟩) (by assumption) ?_
          rotate_left
          · intro W hSw; (try dsimp only at hSw); go_simp; first | done | with_reducible rfl
          try simp only [Act.put, lsa, lsz, lss]
          refine tkY (i := 11) (oi := .mk _ _ _ _ _ _) (v := ?_) rfl (by kernel_rfl) (fun _ _ _ h => h) (Or.inl ⟨by rfl, ?_⟩) (by assumption) ?_
          rotate_left
          · intro W hSw; (try dsimp only at hSw); go_simp; first | done | with_reducible rfl
          try simp only [Act.put, lsa, lsz, lss]
          refine tkY (i := 12) (oi := .mk _ _ _ _ _ _) (v := ?_) rfl (by kernel_rfl) (fun _ _ _ h => h) (Or.inl ⟨by rfl, ?_⟩) (by assumption) ?_
          rotate_left
          · intro W hSw; (try dsimp only at hSw); go_simp; first | done | with_reducible rfl
          try simp only [Act.put, lsa, lsz, lss]
          refine tkY (i := 13) (oi := .mk _ _ _ _ _ _) (v := ?_) rfl (by kernel_rfl) (fun _ _ _ h => h) (Or.inl ⟨by rfl, ?_⟩) (by assumption) ?_
          rotate_left
          · intro W hSw; (try dsimp only at hSw); go_simp; first | done | with_reducible rfl
          try simp only [Act.put, lsa, lsz, lss]
          refine tkY (i := 14) (oi := .mk _ _ _ _ _ _) (v := ?_) rfl (by kernel_rfl) (fun _ _ _ h => h) (Or.inl ⟨by rfl, ?_⟩) (by assumption) ?_
          rotate_left
          · intro W hSw; (try dsimp only at hSw); go_simp; first | done | with_reducible rfl
          try simp only [Act.put, lsa, lsz, lss]
          refine tkY (i := 15) (oi := .mk _ _ _ _ _ _) (v := ?_) rfl (by kernel_rfl) (fun _ _ _ h => h) (Or.inl ⟨by rfl, ?_⟩) (by assumption) ?_
          rotate_left
          · intro W hSw; (try dsimp only at hSw); go_simp; first | done | with_reducible rfl
          try simp only [Act.put, lsa, lsz, lss]
          refine tkY (i := 16) (oi := .mk _ _ _ _ _ _) (v := undef) rfl (by kernel_rfl) (fun _ _ _ h => h) (Or.inr ⟨by rfl, rfl⟩) (by assumption) ?_
          try simp only [Act.put, lsa, lsz, lss]
          refine tkY (i := 17) (oi := .mk _ _ _ _ _ _) (v := undef) rfl (by kernel_rfl) (fun _ _ _ h => h) (Or.inr ⟨by rfl, rfl⟩) (by assumption) ?_
          try simp only [Act.put, lsa, lsz, lss]
          refine tkY (i := 18) (oi := .mk _ _ _ _ _ _) (v := undef) rfl (by kernel_rfl) (fun _ _ _ h => h) (Or.inr ⟨by rfl, rfl⟩) (by assumption) ?_
          try simp only [Act.put, lsa, lsz, lss]
          refine tkY (i := 19) (oi := .mk _ _ _ _ _ _) (v := undef) rfl (by kernel_rfl) (fun _ _ _ h => h) (Or.inr ⟨by rfl, rfl⟩) (by assumption) ?_
          try simp only [Act.put, lsa, lsz, lss]
          refine tkY (i := 20) (oi := .mk _ _ _ _ _ _) (v := undef) rfl (by kernel_rfl) (fun _ _ _ h => h) (Or.inr ⟨by rfl, rfl⟩) (by assumption) ?_
          try simp only [Act.put, lsa, lsz, lss]
          refine tkY (i := 21) (oi := .mk _ _ _ _ _ _) (v := undef) rfl (by kernel_rfl) (fun _ _ _ h => h) (Or.inr ⟨by rfl, rfl⟩) (by assumption) ?_
          try simp only [Act.put, lsa, lsz, lss]
          refine tkY (i := 22) (oi := .mk _ _ _ _ _ _) (v := undef) rfl (by kernel_rfl) (fun _ _ _ h => h) (Or.inr ⟨by rfl, rfl⟩) (by assumption) ?_
          try simp only [Act.put, lsa, lsz, lss]
          refine tkY (i := 23) (oi := .mk _ _ _ _ _ _) (v := undef) rfl (by kernel_rfl) (fun _ _ _ h => h) (Or.inr ⟨by rfl, rfl⟩) (by assumption) ?_
          try simp only [Act.put, lsa, lsz, lss]
          refine tkY (i := 24) (oi := .mk _ _ _ _ _ _) (v := undef) rfl (by kernel_rfl) (fun _ _ _ h => h) (Or.inr ⟨by rfl, rfl⟩) (by assumption) ?_
          try simp only [Act.put, lsa, lsz, lss]
          refine tkY (i := 25) (oi := .mk _ _ _ _ _ _) (v := undef) rfl (by kernel_rfl) (fun _ _ _ h => h) (Or.inr ⟨by rfl, rfl⟩) (by assumption) ?_
          try simp only [Act.put, lsa, lsz, lss]
          refine tkY (i := 26) (oi := .mk _ _ _ _ _ _) (v := undef) rfl (by kernel_rfl) (fun _ _ _ h => h) (Or.inr ⟨by rfl, rfl⟩) (by assumption) ?_
          try simp only [Act.put, lsa, lsz, lss]
          refine tkY (i := 27) (oi := .mk _ _ _ _ _ _) (v := undef) rfl (by kernel_rfl) (fun _ _ _ h => h) (Or.inr ⟨by rfl, rfl⟩) (by assumption) ?_
          try simp only [Act.put, lsa, lsz, lss]
          refine tkY (i := 28) (oi := .mk _ _ _ _ _ _) (v := undef) rfl (by kernel_rfl) (fun _ _ _ h => h) (Or.inr ⟨by rfl, rfl⟩) (by assumption) ?_
          try simp only [Act.put, lsa, lsz, lss]
          refine tkY (i := 29) (oi := .mk _ _ _ _ _ _) (v := ?_) rfl (by kernel_rfl) (fun _ _ _ h => h) (Or.inl ⟨by rfl, ?_⟩) (by assumption) ?_
          rotate_left
          · intro W hSw; (try dsimp only at hSw); go_simp; first | done | with_reducible rfl
          try simp only [Act.put, lsa, lsz, lss]
          refine wpAnyH_done (by kernel_rfl) ?_ _
          have hbz := SRe.all hHeld
          go_wp2_with fail
          go_ret
          exact ⟨ret_b HX.out.symm, hbz.1.bel⟩
        have t2 : decide (2 < q.pos) = false := decide_eq_false hp2
        by_cases hle : q.el ≤ p.el
        · have HX := Lib.hid (HNO.out (st_no1 HJ.out HGQ.out HGP.out hle))
          have t3 : decide (q.el ≤ p.el) = true := decide_eq_true hle
          clear HNO HGQ HGP HJ HK hin hp1 hp2 hle
          refine wp_region_held_drew (S := (fun w' => w'.cell? ⟨w.heap.size, 0, none⟩ = some (.slice v.A1 v.t.rts.length v.c1) ∧ w'.cell? ⟨w.heap.size, 1, none⟩ = some (.slice v.A2 v.t.pts.length v.c2) ∧ w'.cell? ⟨w.heap.size, 2, none⟩ = some (.slice v.A3 v.t.homes.length v.c3) ∧ w'.cell? ⟨w.heap.size, 3, none⟩ = some (.int .i64 v.t.nsec) ∧ w'.cell? ⟨w.heap.size, 4, none⟩ = some (.int .i64 v.t.nsig) ∧ w'.cell? ⟨gx, 0, none⟩ = some (.int .i64 q.el) ∧ w'.cell? ⟨gx, 1, none⟩ = some (.int .i64 q.pos) ∧ w'.cell? ⟨b, off + (k - 1) * 2, none⟩ = some (.int .i64 p.el) ∧ (Bx w w' v ∧ Blk w' gx 99 #[.int .i64 q.el, .int .i64 q.pos]))) (by kernel_rfl) (hss.now (Below.refl _ _).drew) (fun hHeld => ?_)
          refine tkY (i := 0) (oi := .mk _ _ _ _ _ _) (v := ?_) rfl (by kernel_rfl) (fun _ _ _ h => h) (Or.inl ⟨by rfl, ?_⟩) (by assumption) ?_
          rotate_left
          · intro W hSw; (try dsimp only at hSw); go_simp; first | done | with_reducible rfl
          try simp only [Act.put, lsa, lsz, lss]
          refine tkY (i := 1) (oi := .mk _ _ _ _ _ _) (v := ?_) rfl (by kernel_rfl) (fun _ _ _ h => h) (Or.inl ⟨by rfl, ?_⟩) (by assumption) ?_
          rotate_left
          · intro W hSw; (try dsimp only at hSw); go_simp; first | done | with_reducible rfl
          try simp only [Act.put, lsa, lsz, lss]
          refine tkY (i := 2) (oi := .mk _ _ _ _ _ _) (v := ?_) rfl (by kernel_rfl) (fun _ _ _ h => h) (Or.inl ⟨by rfl, ?_⟩) (by assumption) ?_
          rotate_left
          · intro W hSw; (try dsimp only at hSw); go_simp; first | done | with_reducible rfl
          try simp only [Act.put, lsa, lsz, lss]
          refine wpAnyH_ready (rs := [3]) (by kernel_rfl) (by simp) (AllReadyH.cons (o := .mk _ _ _ _ _ _) rfl (fun K hK => ?_) AllReadyH.nil)
          go_simp
          go_at_call 83
          refine (HIX.out false _ HB1.out hHeld).mono ?_
          rintro e wq ⟨⟨n, rfl, hn⟩, hq⟩
          have hq0 : SRe w v gx q b (off + (k - 1) * 2) p.el wq := SRe.now hHeld hq
          go_wp2_with fail
          refine hK.out _ _ ?_ (fun hHeld => ?_)
          · exact hq0
          clear hK K
          try simp only [Act.put, lsa, lsz, lss]
          refine tkY (i := 4) (oi := .mk _ _ _ _ _ _) (v := ?_) rfl (by kernel_rfl) (fun _ _ _ h => h) (Or.inl ⟨by rfl, ?_⟩) (by assumption) ?_
          rotate_left
          · intro W hSw; (try dsimp only at hSw); go_simp; first | done | with_reducible rfl
          try simp only [Act.put, lsa, lsz, lss]
          refine tkY (i := 5) (oi := .mk _ _ _ _ _ _) (v := ?_) rfl (by kernel_rfl) (fun _ _ _ h => h) (Or.inl ⟨by rfl, ?_⟩) (by assumption) ?_
          rotate_left
          · intro W hSw; (try dsimp only at hSw); go_simp; first | done | with_reducible rfl
          try simp only [Act.put, lsa, lsz, lss]
          refine tkY (i := 6) (oi := .mk _ _ _ _ _ _) (v := ?_) rfl (by kernel_rfl) (fun _ _ _ h => h) (Or.inl ⟨by rfl, ?_⟩) (by assumption) ?_
          rotate_left
          · intro W hSw; (try dsimp only at hSw); go_simp; first | done | with_reducible rfl
          try simp only [Act.put, lsa, lsz, lss]
          refine tkY (i := 7) (oi := .mk _ _ _ _ _ _) (v := ?_) rfl (by kernel_rfl) (fun _ _ _ h => h) (Or.inl ⟨by rfl, ?_⟩) (by assumption) ?_
          rotate_left
          · intro W hSw; (try dsimp only at hSw); go_simp; first | done | with_reducible rfl
          try simp only [Act.put, lsa, lsz, lss]
          refine tkY (i := 8) (oi := .mk _ _ _ _ _ _) (v := ?_) rfl (by kernel_rfl) (fun _ _ _ h => h) (Or.inl ⟨by rfl, ?_⟩) (by assumption) ?_
          rotate_left
          · intro W hSw; (try dsimp only at hSw); go_simp; first | done | with_reducible rfl
          try simp only [Act.put, lsa, lsz, lss]
          refine tkY (i := 9) (oi := .mk _ _ _ _ _ _) (v := ?_) rfl (by kernel_rfl) (fun _ _ _ h => h) (Or.inl ⟨by rfl, ?_⟩) (by assumption) ?_
          rotate_left
          · intro W hSw; (try dsimp only at hSw); go_simp; first | done | with_reducible rfl
          try simp only [Act.put, lsa, lsz, lss]
          refine tkY (i := 10) (oi := .mk _ _ _ _ _ _) (v := ?_) rfl (by kernel_rfl) (fun _ _ _ h => h) (Or.inl ⟨by rfl, ?_⟩) (by assumption) ?_
          rotate_left
          · intro W hSw; (try dsimp only at hSw); go_simp; first | done | with_reducible rfl
          try simp only [Act.put, lsa, lsz, lss]
          refine tkY (i := 11) (oi := .mk _ _ _ _ _ _) (v := ?_) rfl (by kernel_rfl) (fun _ _ _ h => h) (Or.inl ⟨by rfl, ?_⟩) (by assumption) ?_
          rotate_left
          · intro W hSw; (try dsimp only at hSw); go_simp; first | done | with_reducible rfl
          try simp only [Act.put, lsa, lsz, lss]
          refine tkY (i := 12) (oi := .mk _ _ _ _ _ _) (v := ?_) rfl (by kernel_rfl) (fun _ _ _ h => h) (Or.inl ⟨by rfl, ?_⟩) (by assumption) ?_
          rotate_left
          · intro W hSw; (try dsimp only at hSw); go_simp; first | done | with_reducible rfl
          try simp only [Act.put, lsa, lsz, lss]
          refine tkY (i := 13) (oi := .mk _ _ _ _ _ _) (v := ?_) rfl (by kernel_rfl) (fun _ _ _ h => h) (Or.inl ⟨by rfl, ?_⟩) (by assumption) ?_
          rotate_left
          · intro W hSw; (try dsimp only at hSw); go_simp; first | done | with_reducible rfl
          try simp only [Act.put, lsa, lsz, lss]
          refine tkY (i := 14) (oi := .mk _ _ _ _ _ _) (v := ?_) rfl (by kernel_rfl) (fun _ _ _ h => h) (Or.inl ⟨by rfl, ?_⟩) (by assumption) ?_
          rotate_left
          · intro W hSw; (try dsimp only at hSw); go_simp; first | done | with_reducible rfl
          try simp only [Act.put, lsa, lsz, lss]
          refine tkY (i := 15) (oi := .mk _ _ _ _ _ _) (v := ?_) rfl (by kernel_rfl) (fun _ _ _ h => h) (Or.inl ⟨by rfl, ?_⟩) (by assumption) ?_
          rotate_left
          · intro W hSw; (try dsimp only at hSw); go_simp; first | done | with_reducible rfl
          try simp only [Act.put, lsa, lsz, lss]
          refine tkY (i := 16) (oi := .mk _ _ _ _ _ _) (v := ?_) rfl (by kernel_rfl) (fun _ _ _ h => h) (Or.inl ⟨by rfl, ?_⟩) (by assumption) ?_
          rotate_left
          · intro W hSw; (try dsimp only at hSw); go_simp; first | done | with_reducible rfl
          try simp only [Act.put, lsa, lsz, lss]
          refine tkY (i := 17) (oi := .mk _ _ _ _ _ _) (v := ?_) rfl (by kernel_rfl) (fun _ _ _ h => h) (Or.inl ⟨by rfl, ?_⟩) (by assumption) ?_
          rotate_left
          · intro W hSw; (try dsimp only at hSw); go_simp; first | done | with_reducible rfl
          try simp only [Act.put, lsa, lsz, lss]
          refine tkY (i := 18) (oi := .mk _ _ _ _ _ _) (v := ?_) rfl (by kernel_rfl) (fun _ _ _ h => h) (Or.inl ⟨by rfl, ?_⟩) (by assumption) ?_
          rotate_left
          · intro W hSw; (try dsimp only at hSw); go_simp; first | done | with_reducible rfl
          try simp only [Act.put, lsa, lsz, lss]
          refine tkY (i := 19) (oi := .mk _ _ _ _ _ _) (v := ?_) rfl (by kernel_rfl) (fun _ _ _ h => h) (Or.inl ⟨by rfl, ?_⟩) (by assumption) ?_
          rotate_left
          · intro W hSw; (try dsimp only at hSw); go_simp; first | done | with_reducible rfl
          try simp only [Act.put, lsa, lsz, lss]
          refine tkY (i := 20) (oi := .mk _ _ _ _ _ _) (v := ?_) rfl (by kernel_rfl) (fun _ _ _ h => h) (Or.inl ⟨by rfl, ?_⟩) (by assumption) ?_
          rotate_left
          · intro W hSw; (try dsimp only at hSw); go_simp; first | done | with_reducible rfl
          try simp only [Act.put, lsa, lsz, lss]
          refine tkY (i := 21) (oi := .mk _ _ _ _ _ _) (v := ?_) rfl (by kernel_rfl) (fun _ _ _ h => h) (Or.inl ⟨by rfl, ?_⟩) (by assumption) ?_
          rotate_left
          · intro W hSw; (try dsimp only at hSw); go_simp; first | done | with_reducible rfl
          try simp only [Act.put, lsa, lsz, lss]
          refine tkY (i := 22) (oi := .mk _ _ _ _ _ _) (v := ?_) rfl (by kernel_rfl) (fun _ _ _ h => h) (Or.inl ⟨by rfl, ?_⟩) (by assumption) ?_
          rotate_left
          · intro W hSw; (try dsimp only at hSw); go_simp; first | done | with_reducible rfl
          try simp only [Act.put, lsa, lsz, lss]
          refine tkY (i := 23) (oi := .mk _ _ _ _ _ _) (v := ?_) rfl (by kernel_rfl) (fun _ _ _ h => h) (Or.inl ⟨by rfl, ?_⟩) (by assumption) ?_
          rotate_left
          · intro W hSw; (try dsimp only at hSw); go_simp; first | done | with_reducible rfl
          try simp only [Act.put, lsa, lsz, lss]
          refine tkY (i := 24) (oi := .mk _ _ _ _ _ _) (v := ?_) rfl (by kernel_rfl) (fun _ _ _ h => h) (Or.inl ⟨by rfl, ?_⟩) (by assumption) ?_
          rotate_left
          · intro W hSw; (try dsimp only at hSw); go_simp; first | done | with_reducible rfl
          try simp only [Act.put, lsa, lsz, lss]
          refine tkY (i := 25) (oi := .mk _ _ _ _ _ _) (v := ?_) rfl (by kernel_rfl) (fun _ _ _ h => h) (Or.inl ⟨by rfl, ?_⟩) (by assumption) ?_
          rotate_left
          · intro W hSw; (try dsimp only at hSw); go_simp; first | done | with_reducible rfl
          try simp only [Act.put, lsa, lsz, lss]
          refine tkY (i := 26) (oi := .mk _ _ _ _ _ _) (v := ?_) rfl (by kernel_rfl) (fun _ _ _ h => h) (Or.inl ⟨by rfl, ?_⟩) (by assumption) ?_
          rotate_left
          · intro W hSw; (try dsimp only at hSw); go_simp; first | done | with_reducible rfl
          try simp only [Act.put, lsa, lsz, lss]
          refine tkY (i := 27) (oi := .mk _ _ _ _ _ _) (v := ?_) rfl (by kernel_rfl) (fun _ _ _ h => h) (Or.inl ⟨by rfl, ?_⟩) (by assumption) ?_
          rotate_left
          · intro W hSw; (try dsimp only at hSw); go_simp; first | done | with_reducible rfl
          try simp only [Act.put, lsa, lsz, lss]
          refine tkY (i := 28) (oi := .mk _ _ _ _ _ _) (v := ?_) rfl (by kernel_rfl) (fun _ _ _ h => h) (Or.inl ⟨by rfl, ?_⟩) (by assumption) ?_
          rotate_left
          · intro W hSw; (try dsimp only at hSw); go_simp; first | done | with_reducible rfl
          try simp only [Act.put, lsa, lsz, lss]
          refine tkY (i := 29) (oi := .mk _ _ _ _ _ _) (v := ?_) rfl (by kernel_rfl) (fun _ _ _ h => h) (Or.inl ⟨by rfl, ?_⟩) (by assumption) ?_
          rotate_left
          · intro W hSw; (try dsimp only at hSw); go_simp; first | done | with_reducible rfl
          try simp only [Act.put, lsa, lsz, lss]
          refine wpAnyH_done (by kernel_rfl) ?_ _
          have hbz := SRe.all hHeld
          go_wp2_with fail
          go_ret
          exact ⟨ret_b HX.out.symm, hbz.1.bel⟩
        have HX := Lib.hid (upto_succ HK.out (st_yes1 HJ.out HGQ.out HGP.out hin (by omega) hle))
        have t3 : decide (q.el ≤ p.el) = false := decide_eq_false hle
        clear HNO HGQ HGP HJ HK hin hp1 hp2 hle
        refine wp_region_held_drew (S := (fun w' => w'.cell? ⟨w.heap.size, 0, none⟩ = some (.slice v.A1 v.t.rts.length v.c1) ∧ w'.cell? ⟨w.heap.size, 1, none⟩ = some (.slice v.A2 v.t.pts.length v.c2) ∧ w'.cell? ⟨w.heap.size, 2, none⟩ = some (.slice v.A3 v.t.homes.length v.c3) ∧ w'.cell? ⟨w.heap.size, 3, none⟩ = some (.int .i64 v.t.nsec) ∧ w'.cell? ⟨w.heap.size, 4, none⟩ = some (.int .i64 v.t.nsig) ∧ w'.cell? ⟨gx, 0, none⟩ = some (.int .i64 q.el) ∧ w'.cell? ⟨gx, 1, none⟩ = some (.int .i64 q.pos) ∧ w'.cell? ⟨b, off + (k - 1) * 2, none⟩ = some (.int .i64 p.el) ∧ (Bx w w' v ∧ Blk w' gx 99 #[.int .i64 q.el, .int .i64 q.pos]))) (by kernel_rfl) (hss.now (Below.refl _ _).drew) (fun hHeld => ?_)
        refine tkY (i := 0) (oi := .mk _ _ _ _ _ _) (v := ?_) rfl (by kernel_rfl) (fun _ _ _ h => h) (Or.inl ⟨by rfl, ?_⟩) (by assumption) ?_
        rotate_left
        · intro W hSw; (try dsimp only at hSw); go_simp; first | done | with_reducible rfl
        try simp only [Act.put, lsa, lsz, lss]
        refine tkY (i := 1) (oi := .mk _ _ _ _ _ _) (v := ?_) rfl (by kernel_rfl) (fun _ _ _ h => h) (Or.inl ⟨by rfl, ?_⟩) (by assumption) ?_
        rotate_left
        · intro W hSw; (try dsimp only at hSw); go_simp; first | done | with_reducible rfl
        try simp only [Act.put, lsa, lsz, lss]
        refine tkY (i := 2) (oi := .mk _ _ _ _ _ _) (v := ?_) rfl (by kernel_rfl) (fun _ _ _ h => h) (Or.inl ⟨by rfl, ?_⟩) (by assumption) ?_
        rotate_left
        · intro W hSw; (try dsimp only at hSw); go_simp; first | done | with_reducible rfl
        try simp only [Act.put, lsa, lsz, lss]
        refine wpAnyH_ready (rs := [3]) (by kernel_rfl) (by simp) (AllReadyH.cons (o := .mk _ _ _ _ _ _) rfl (fun K hK => ?_) AllReadyH.nil)
        go_simp
        go_at_call 83
        refine (HIX.out false _ HB1.out hHeld).mono ?_
        rintro e wq ⟨⟨n, rfl, hn⟩, hq⟩
        have hq0 : SRe w v gx q b (off + (k - 1) * 2) p.el wq := SRe.now hHeld hq
        go_wp2_with fail
        refine hK.out _ _ ?_ (fun hHeld => ?_)
        · exact hq0
        clear hK K
        try simp only [Act.put, lsa, lsz, lss]
        refine tkY (i := 4) (oi := .mk _ _ _ _ _ _) (v := ?_) rfl (by kernel_rfl) (fun _ _ _ h => h) (Or.inl ⟨by rfl, ?_⟩) (by assumption) ?_
        rotate_left
        · intro W hSw; (try dsimp only at hSw); go_simp; first | done | with_reducible rfl
        try simp only [Act.put, lsa, lsz, lss]
        refine tkY (i := 5) (oi := .mk _ _ _ _ _ _) (v := ?_) rfl (by kernel_rfl) (fun _ _ _ h => h) (Or.inl ⟨by rfl, ?_⟩) (by assumption) ?_
        rotate_left
        · intro W hSw; (try dsimp only at hSw); go_simp; first | done | with_reducible rfl
        try simp only [Act.put, lsa, lsz, lss]
        refine tkY (i := 6) (oi := .mk _ _ _ _ _ _) (v := ?_) rfl (by kernel_rfl) (fun _ _ _ h => h) (Or.inl ⟨by rfl, ?_⟩) (by assumption) ?_
        rotate_left
        · intro W hSw; (try dsimp only at hSw); go_simp; first | done | with_reducible rfl
        try simp only [Act.put, lsa, lsz, lss]
        refine tkY (i := 7) (oi := .mk _ _ _ _ _ _) (v := ?_) rfl (by kernel_rfl) (fun _ _ _ h => h) (Or.inl ⟨by rfl, ?_⟩) (by assumption) ?_
        rotate_left
        · intro W hSw; (try dsimp only at hSw); go_simp; first | done | with_reducible rfl
        try simp only [Act.put, lsa, lsz, lss]
        refine tkY (i := 8) (oi := .mk _ _ _ _ _ _) (v := ?_) rfl (by kernel_rfl) (fun _ _ _ h => h) (Or.inl ⟨by rfl, ?_⟩) (by assumption) ?_
        rotate_left
        · intro W hSw; (try dsimp only at hSw); go_simp; first | done | with_reducible rfl
        try simp only [Act.put, lsa, lsz, lss]
        refine tkY (i := 9) (oi := .mk _ _ _ _ _ _) (v := ?_) rfl (by kernel_rfl) (fun _ _ _ h => h) (Or.inl ⟨by rfl, ?_⟩) (by assumption) ?_
        rotate_left
        · intro W hSw; (try dsimp only at hSw); go_simp; first | done | with_reducible rfl
        try simp only [Act.put, lsa, lsz, lss]
        refine tkY (i := 10) (oi := .mk _ _ _ _ _ _) (v := ?_) rfl (by kernel_rfl) (fun _ _ _ h => h) (Or.inl ⟨by rfl, ?_⟩) (by assumption) ?_
        rotate_left
        · intro W hSw; (try dsimp only at hSw); go_simp; first | done | with_reducible rfl
        try simp only [Act.put, lsa, lsz, lss]
        refine tkY (i := 11) (oi := .mk _ _ _ _ _ _) (v := ?_) rfl (by kernel_rfl) (fun _ _ _ h => h) (Or.inl ⟨by rfl, ?_⟩) (by assumption) ?_
        rotate_left
        · intro W hSw; (try dsimp only at hSw); go_simp; first | done | with_reducible rfl
        try simp only [Act.put, lsa, lsz, lss]
        refine tkY (i := 12) (oi := .mk _ _ _ _ _ _) (v := ?_) rfl (by kernel_rfl) (fun _ _ _ h => h) (Or.inl ⟨by rfl, ?_⟩) (by assumption) ?_
        rotate_left
        · intro W hSw; (try dsimp only at hSw); go_simp; first | done | with_reducible rfl
        try simp only [Act.put, lsa, lsz, lss]
        refine tkY (i := 13) (oi := .mk _ _ _ _ _ _) (v := ?_) rfl (by kernel_rfl) (fun _ _ _ h => h) (Or.inl ⟨by rfl, ?_⟩) (by assumption) ?_
        rotate_left
        · intro W hSw; (try dsimp only at hSw); go_simp; first | done | with_reducible rfl
        try simp only [Act.put, lsa, lsz, lss]
        refine tkY (i := 14) (oi := .mk _ _ _ _ _ _) (v := ?_) rfl (by kernel_rfl) (fun _ _ _ h => h) (Or.inl ⟨by rfl, ?_⟩) (by assumption) ?_
        rotate_left
        · intro W hSw; (try dsimp only at hSw); go_simp; first | done | with_reducible rfl
        try simp only [Act.put, lsa, lsz, lss]
        refine tkY (i := 15) (oi := .mk _ _ _ _ _ _) (v := ?_) rfl (by kernel_rfl) (fun _ _ _ h => h) (Or.inl ⟨by rfl, ?_⟩) (by assumption) ?_
        rotate_left
        · intro W hSw; (try dsimp only at hSw); go_simp; first | done | with_reducible rfl
        try simp only [Act.put, lsa, lsz, lss]
        refine tkY (i := 16) (oi := .mk _ _ _ _ _ _) (v := ?_) rfl (by kernel_rfl) (fun _ _ _ h => h) (Or.inl ⟨by rfl, ?_⟩) (by assumption) ?_
        rotate_left
        · intro W hSw; (try dsimp only at hSw); go_simp; first | done | with_reducible rfl
        try simp only [Act.put, lsa, lsz, lss]
        refine tkY (i := 17) (oi := .mk _ _ _ _ _ _) (v := ?_) rfl (by kernel_rfl) (fun _ _ _ h => h) (Or.inl ⟨by rfl, ?_⟩) (by assumption) ?_
        rotate_left
        · intro W hSw; (try dsimp only at hSw); go_simp; first | done | with_reducible rfl
        try simp only [Act.put, lsa, lsz, lss]
        refine tkY (i := 18) (oi := .mk _ _ _ _ _ _) (v := ?_) rfl (by kernel_rfl) (fun _ _ _ h => h) (Or.inl ⟨by rfl, ?_⟩) (by assumption) ?_
        rotate_left
        · intro W hSw; (try dsimp only at hSw); go_simp; first | done | with_reducible rfl
        try simp only [Act.put, lsa, lsz, lss]
        refine tkY (i := 19) (oi := .mk _ _ _ _ _ _) (v := ?_) rfl (by kernel_rfl) (fun _ _ _ h => h) (Or.inl ⟨by rfl, ?_⟩) (by assumption) ?_
        rotate_left
        · intro W hSw; (try dsimp only at hSw); go_simp; first | done | with_reducible rfl
        try simp only [Act.put, lsa, lsz, lss]
        refine tkY (i := 20) (oi := .mk _ _ _ _ _ _) (v := ?_) rfl (by kernel_rfl) (fun _ _ _ h => h) (Or.inl ⟨by rfl, ?_⟩) (by assumption) ?_
        rotate_left
        · intro W hSw; (try dsimp only at hSw); go_simp; first | done | with_reducible rfl
        try simp only [Act.put, lsa, lsz, lss]
        refine tkY (i := 21) (oi := .mk _ _ _ _ _ _) (v := ?_) rfl (by kernel_rfl) (fun _ _ _ h => h) (Or.inl ⟨by rfl, ?_⟩) (by assumption) ?_
        rotate_left
        · intro W hSw; (try dsimp only at hSw); go_simp; first | done | with_reducible rfl
        try simp only [Act.put, lsa, lsz, lss]
        refine tkY (i := 22) (oi := .mk _ _ _ _ _ _) (v := ?_) rfl (by kernel_rfl) (fun _ _ _ h => h) (Or.inl ⟨by rfl, ?_⟩) (by assumption) ?_
        rotate_left
        · intro W hSw; (try dsimp only at hSw); go_simp; first | done | with_reducible rfl
        try simp only [Act.put, lsa, lsz, lss]
        refine tkY (i := 23) (oi := .mk _ _ _ _ _ _) (v := ?_) rfl (by kernel_rfl) (fun _ _ _ h => h) (Or.inl ⟨by rfl, ?_⟩) (by assumption) ?_
        rotate_left
        · intro W hSw; (try dsimp only at hSw); go_simp; first | done | with_reducible rfl
        try simp only [Act.put, lsa, lsz, lss]
        refine tkY (i := 24) (oi := .mk _ _ _ _ _ _) (v := ?_) rfl (by kernel_rfl) (fun _ _ _ h => h) (Or.inl ⟨by rfl, ?_⟩) (by assumption) ?_
        rotate_left
        · intro W hSw; (try dsimp only at hSw); go_simp; first | done | with_reducible rfl
        try simp only [Act.put, lsa, lsz, lss]
        refine tkY (i := 25) (oi := .mk _ _ _ _ _ _) (v := ?_) rfl (by kernel_rfl) (fun _ _ _ h => h) (Or.inl ⟨by rfl, ?_⟩) (by assumption) ?_
        rotate_left
        · intro W hSw; (try dsimp only at hSw); go_simp; first | done | with_reducible rfl
        try simp only [Act.put, lsa, lsz, lss]
        refine tkY (i := 26) (oi := .mk _ _ _ _ _ _) (v := ?_) rfl (by kernel_rfl) (fun _ _ _ h => h) (Or.inl ⟨by rfl, ?_⟩) (by assumption) ?_
        rotate_left
        · intro W hSw; (try dsimp only at hSw); go_simp; first | done | with_reducible rfl
        try simp only [Act.put, lsa, lsz, lss]
        refine tkY (i := 27) (oi := .mk _ _ _ _ _ _) (v := ?_) rfl (by kernel_rfl) (fun _ _ _ h => h) (Or.inl ⟨by rfl, ?_⟩) (by assumption) ?_
        rotate_left
        · intro W hSw; (try dsimp only at hSw); go_simp; first | done | with_reducible rfl
        try simp only [Act.put, lsa, lsz, lss]
        refine tkY (i := 28) (oi := .mk _ _ _ _ _ _) (v := ?_) rfl (by kernel_rfl) (fun _ _ _ h => h) (Or.inl ⟨by rfl, ?_⟩) (by assumption) ?_
        rotate_left
        · intro W hSw; (try dsimp only at hSw); go_simp; first | done | with_reducible rfl
        try simp only [Act.put, lsa, lsz, lss]
        refine tkY (i := 29) (oi := .mk _ _ _ _ _ _) (v := ?_) rfl (by kernel_rfl) (fun _ _ _ h => h) (Or.inl ⟨by rfl, ?_⟩) (by assumption) ?_
        rotate_left
        · intro W hSw; (try dsimp only at hSw); go_simp; first | done | with_reducible rfl
        try simp only [Act.put, lsa, lsz, lss]
        refine wpAnyH_done (by kernel_rfl) ?_ _
        have hbz := SRe.all hHeld
        go_wp2_with fail
        go_roundw
        case rel => exact ⟨k + 1, by omega, by go_num, hbz.1, HX⟩
        case measure => simp [intOf]; omega
    · have HX := Lib.hid (HZ.out fun j hj => HK.out j (by omega))
      go_wp2_with fail
      go_ret
      exact ⟨ret_b HX.out.symm, hb.bel⟩
end Go.Proofs.YtlblfblkallnhaaGreatDoor
