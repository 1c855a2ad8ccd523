/- The reader's box, and what a step on it leaves. -/
import Derived.Test.YtlblfblkallnhaaGreatDoorTbParB
namespace Go.Proofs.YtlblfblkallnhaaGreatDoor
set_option linter.unusedVariables false
set_option linter.unusedSimpArgs false
open Go.RowKit
structure RW (w : World) (g : Nat) (t : Tab) (p : Int) (v1 v2 v3 : Value) : Prop where
  blk : Blk w g 56 #[v1, v2, v3, .int .i64 t.nsec, .int .i64 t.nsig, .int .i64 p]
  r1 : OwnT cR w (g + 1) 41 v1 t.rts
  r2 : OwnR cI w (g + 1) 3 v2 t.pts 0
  r3 : OwnR cI w (g + 1) 3 v3 t.homes 0
  ap : ∀ b, v2.ownBlock = some b → v3.ownBlock ≠ some b
  i1 : I64n t.nsec
  i2 : I64n t.nsig
def RWS (w : World) (g : Nat) (t : Tab) (p : Int) : Prop := ∃ v1 v2 v3, RW w g t p v1 v2 v3
section
variable {α : Type} {c : Cod α} {w w' : World} {base : Nat} {e e2 : TypeId} {v : Value}
theorem OwnT.drew {l : List α} (h : OwnT c w base e v l) : OwnT c w.drew base e v l := h.now (Below.refl _ _).drew
theorem OwnT.alloc {l : List α} (h : OwnT c w base e v l) (o : Obj) : OwnT c (w.alloc o) base e v l := h.now ((Below.refl _ _).alloc (Nat.le_refl _) o)
/-- An empty row stays, whatever row of another type is turned. -/
theorem OwnT.empty (h : OwnT c w base e v ([] : List α)) {base2 : Nat} (hf : Frm base2 e2 w w') (he : e ≠ e2) : OwnT c w' base e v ([] : List α) := by
  obtain ⟨xs, h1, h2⟩ := h
  refine ⟨xs, ⟨h1.1, ?_⟩, h2⟩
  rcases h1.2 with h | ⟨g, cap, cur, hv, hb, hg, h3⟩
  · exact Or.inl h
  · exact Or.inr ⟨g, cap, cur, hv, hb, hf.obj g _ hg fun cs fr hx => by simp only [Obj.cells.injEq] at hx; exact he hx.2.1, h3⟩
theorem ownBlock_lt {l : List α} {B : Nat} (h : OwnR c w base e v l B) : ∀ b, v.ownBlock = some b → b < w.heap.size := by
  obtain ⟨xs, h1, _⟩ := h
  exact fun b hb => (World.ownsRow.lt h1 b hb).2
end
section
variable {w w' : World} {g : Nat} {t : Tab} {p : Int} {v1 v2 v3 u : Value}
theorem RW.now (h : RW w g t p v1 v2 v3) (hb : Below w.heap.size w w') : RW w' g t p v1 v2 v3 := ⟨h.blk.now hb, h.r1.now hb, h.r2.now hb, h.r3.now hb, h.ap, h.i1, h.i2⟩
theorem RW.drew (h : RW w g t p v1 v2 v3) : RW w.drew g t p v1 v2 v3 := h.now (Below.refl _ _).drew
theorem RW.alloc (h : RW w g t p v1 v2 v3) (o : Obj) : RW (w.alloc o) g t p v1 v2 v3 := h.now ((Below.refl _ _).alloc (Nat.le_refl _) o)
theorem RW.x0 (h : RW w g t p v1 v2 v3) : w.cell? ⟨g, 0, none⟩ = some v1 := h.blk.cell 0
theorem RW.x1 (h : RW w g t p v1 v2 v3) : w.cell? ⟨g, 1, none⟩ = some v2 := h.blk.cell 1
theorem RW.x2 (h : RW w g t p v1 v2 v3) : w.cell? ⟨g, 2, none⟩ = some v3 := h.blk.cell 2
theorem RW.x3 (h : RW w g t p v1 v2 v3) : w.cell? ⟨g, 3, none⟩ = some (.int .i64 t.nsec) := h.blk.cell 3
theorem RW.x4 (h : RW w g t p v1 v2 v3) : w.cell? ⟨g, 4, none⟩ = some (.int .i64 t.nsig) := h.blk.cell 4
theorem RW.x5 (h : RW w g t p v1 v2 v3) : w.cell? ⟨g, 5, none⟩ = some (.int .i64 p) := h.blk.cell 5
theorem RW.put3 (h : RW w g t p v1 v2 v3) {n : Int} (hn : I64n n) : RW (w.setCell ⟨g, 3, none⟩ (.int .i64 n)) g { t with nsec := n } p v1 v2 v3 :=
  ⟨h.blk.set 3 _, h.r1.setLow (p := ⟨g, 3, none⟩) (Nat.lt_succ_self g) _, h.r2.set g 3 _ _ _ h.blk (by decide) (Nat.zero_le _), h.r3.set g 3 _ _ _ h.blk (by decide) (Nat.zero_le _), h.ap, hn, h.i2⟩
theorem RW.put4 (h : RW w g t p v1 v2 v3) {n : Int} (hn : I64n n) : RW (w.setCell ⟨g, 4, none⟩ (.int .i64 n)) g { t with nsig := n } p v1 v2 v3 :=
  ⟨h.blk.set 4 _, h.r1.setLow (p := ⟨g, 4, none⟩) (Nat.lt_succ_self g) _, h.r2.set g 4 _ _ _ h.blk (by decide) (Nat.zero_le _), h.r3.set g 4 _ _ _ h.blk (by decide) (Nat.zero_le _), h.ap, h.i1, hn⟩
theorem RW.put5 (h : RW w g t p v1 v2 v3) (q : Int) : RW (w.setCell ⟨g, 5, none⟩ (.int .i64 q)) g t q v1 v2 v3 :=
  ⟨h.blk.set 5 _, h.r1.setLow (p := ⟨g, 5, none⟩) (Nat.lt_succ_self g) _, h.r2.set g 5 _ _ _ h.blk (by decide) (Nat.zero_le _), h.r3.set g 5 _ _ _ h.blk (by decide) (Nat.zero_le _), h.ap, h.i1, h.i2⟩
/-- Behind an append of a number to the points, the slice stored. -/
theorem RW.put1 (h : RW w g t p v1 v2 v3) (ht : t.rts = []) {n : Int} (hq : AppQ cI w w' (g + 1) 3 v2 u (t.pts ++ [n])) : RW (w'.setCell ⟨g, 1, none⟩ u) g { t with pts := t.pts ++ [n] } p v1 u v3 := by
  have hb := hq.frm.blk h.blk (by decide)
  have h1 : OwnT cR w' (g + 1) 41 v1 t.rts := by have := h.r1; rw [ht] at this ⊢; exact this.empty hq.frm (by decide)
  have h3 : OwnR cI w' (g + 1) 3 v3 t.homes 0 := h.r3.apart hq fun b hb hb2 => h.ap b hb2 hb
  refine ⟨hb.set 1 _, h1.setLow (p := ⟨g, 1, none⟩) (Nat.lt_succ_self g) _, (hq.own.low cI_flat).set g 1 _ _ _ hb (by decide) (Nat.zero_le _), h3.set g 1 _ _ _ hb (by decide) (Nat.zero_le _), fun b hu hv => ?_, h.i1, h.i2⟩
  rcases hq.blk b hu with h4 | h4
  · exact h.ap b h4 hv
  · have := ownBlock_lt h.r3 b hv; omega
theorem RW.put2 (h : RW w g t p v1 v2 v3) (ht : t.rts = []) {n : Int} (hq : AppQ cI w w' (g + 1) 3 v3 u (t.homes ++ [n])) : RW (w'.setCell ⟨g, 2, none⟩ u) g { t with homes := t.homes ++ [n] } p v1 v2 u := by
  have hb := hq.frm.blk h.blk (by decide)
  have h1 : OwnT cR w' (g + 1) 41 v1 t.rts := by have := h.r1; rw [ht] at this ⊢; exact this.empty hq.frm (by decide)
  have h2 : OwnR cI w' (g + 1) 3 v2 t.pts 0 := h.r2.apart hq fun b hb hb2 => h.ap b hb hb2
  refine ⟨hb.set 2 _, h1.setLow (p := ⟨g, 2, none⟩) (Nat.lt_succ_self g) _, h2.set g 2 _ _ _ hb (by decide) (Nat.zero_le _), (hq.own.low cI_flat).set g 2 _ _ _ hb (by decide) (Nat.zero_le _), fun b hv hu => ?_, h.i1, h.i2⟩
  rcases hq.blk b hu with h4 | h4
  · exact h.ap b hv h4
  · have := ownBlock_lt h.r2 b hv; omega
/-- Behind an append of a route. -/
theorem RW.put0 (h : RW w g t p v1 v2 v3) {r : Rou} (hq : AppT cR w w' (g + 1) 41 u (t.rts ++ [r])) : RW (w'.setCell ⟨g, 0, none⟩ u) g { t with rts := t.rts ++ [r] } p u v2 v3 := by
  have hb := hq.frm.blk h.blk (by decide)
  exact ⟨hb.set 0 _, hq.own.setLow (p := ⟨g, 0, none⟩) (Nat.lt_succ_self g) _, (h.r2.frm hq.frm (by decide) (Nat.zero_le _)).set g 0 _ _ _ hb (by decide) (Nat.zero_le _), (h.r3.frm hq.frm (by decide) (Nat.zero_le _)).set g 0 _ _ _ hb (by decide) (Nat.zero_le _), h.ap, h.i1, h.i2⟩
/-- The box is there. -/
def BoxS (w : World) (g : Nat) : Prop := ∃ cs, Blk w g 56 cs ∧ 5 < cs.size
theorem RW.boxS (h : RW w g t p v1 v2 v3) : BoxS w g := ⟨_, h.blk, by simp⟩
/-- The result of a line's step. -/
def LinePost (g : Nat) (w : World) (r : Option Tab) (q : Int) (e : Ending) (w' : World) : Prop := e = .returned (.bool r.isSome) ∧ Below g w w' ∧ BoxS w' g ∧ Hid (∀ t', r = some t' → RWS w' g t' q)
theorem linePost_no {r : Option Tab} {q : Int} {e : Ending} (h : r = none) (he : e = .returned (.bool false)) (hb : Below g w w') (hk : BoxS w' g) : LinePost g w r q e w' := by subst h; exact ⟨he, hb, hk, Lib.hid fun t' h => by cases h⟩
theorem linePost_ok {r : Option Tab} {q : Int} {e : Ending} {t' : Tab} (h : r = some t') (he : e = .returned (.bool true)) (hb : Below g w w') (hr : RWS w' g t' q) : LinePost g w r q e w' := by
  subst h
  obtain ⟨_, _, _, h⟩ := id hr
  exact ⟨he, hb, h.boxS, Lib.hid fun t2 h => by cases h; exact hr⟩
end
theorem intsC {l : List (List UInt8)} {r : Option (List Int)} (h : optI l = r) (A : Option Addr) (cap : Nat) (w : World) (E : EnvR w) (hr : RdS cS w (Lt w) A l) (hl : l.length ≤ 40000) (hw : ∀ x ∈ l, x.length ≤ 40000) :
    Calls Tryz.prog 85 #[.slice A l.length cap] w (OptR cI 3 w r) := h ▸ ints_any l A cap w E hr hl hw
end Go.Proofs.YtlblfblkallnhaaGreatDoor
