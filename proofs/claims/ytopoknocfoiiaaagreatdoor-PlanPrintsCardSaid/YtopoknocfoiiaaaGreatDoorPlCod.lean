/- How layouts lie in memory. -/
import Derived.Test.YtopoknocfoiiaaaGreatDoorPlMaps
import Derived.Test.YtopoknocfoiiaaaGreatDoorWdWalksH
import Derived.StillTailTactics
import Derived.Deep.RegionHeld3
import Derived.Deep.Cut
import Derived.IntWalk
import Derived.Lib.LaidTab
namespace Go.Proofs.YtopoknocfoiiaaaGreatDoor
set_option linter.unusedVariables false
set_option linter.unusedSimpArgs false
open Go.RowKit
def eltV (x : Elt) : List Value := [.string (bs x.name), .int .i64 x.kind, .int .i64 x.len, .int .i64 x.grd, .int .i64 x.spd, .int .i64 x.slow, .int .i64 x.sec]
def eltO (x : Elt) : Prop := x.name.length ≤ maxLen ∧ I64n x.kind ∧ I64n x.len ∧ I64n x.grd ∧ I64n x.spd ∧ I64n x.slow ∧ I64n x.sec
def cE : Cod Elt where
  size := 7
  rd := fun _ _ cs x => cs = eltV x ∧ eltO x
  fit := fun _ => True
  len := fun h => by rw [h.1]; rfl
  keep := fun h _ => h
  more := fun h _ => h
def jntV (x : Jnt) : List Value := [.int .i64 x.a.el, .int .i64 x.a.sd, .int .i64 x.b.el, .int .i64 x.b.sd]
def jntO (x : Jnt) : Prop := endO x.a ∧ endO x.b
def cJ : Cod Jnt where
  size := 4
  rd := fun _ _ cs x => cs = jntV x ∧ jntO x
  fit := fun _ => True
  len := fun h => by rw [h.1]; rfl
  keep := fun h _ => h
  more := fun h _ => h
def sgnV (x : Sgn) : List Value := [.string (bs x.name), .int .i64 x.pos.el, .int .i64 x.pos.sd, .int .i64 x.ovl]
def sgnO (x : Sgn) : Prop := x.name.length ≤ maxLen ∧ endO x.pos ∧ I64n x.ovl
def cSg : Cod Sgn where
  size := 4
  rd := fun _ _ cs x => cs = sgnV x ∧ sgnO x
  fit := fun _ => True
  len := fun h => by rw [h.1]; rfl
  keep := fun h _ => h
  more := fun h _ => h
def blsV (x : Bls) : List Value := [.int .i64 x.id, .int .i64 x.el, .int .i64 x.off]
def blsO (x : Bls) : Prop := I64n x.id ∧ I64n x.el ∧ I64n x.off
def cBl : Cod Bls where
  size := 3
  rd := fun _ _ cs x => cs = blsV x ∧ blsO x
  fit := fun _ => True
  len := fun h => by rw [h.1]; rfl
  keep := fun h _ => h
  more := fun h _ => h
section
variable {w : World} {S : Nat → Prop} {A : Option Addr}
theorem RdS.elE {l : List Elt} (h : RdS cE w S A l) {i : Nat} (hi : i < l.length) :
    ∃ b off, A = some ⟨b, off, none⟩ ∧ S b ∧ eltO l[i] ∧ w.cell? ⟨b, off + i * 7, none⟩ = some (.string (bs l[i].name)) ∧ w.cell? ⟨b, off + i * 7 + 1, none⟩ = some (.int .i64 l[i].kind) ∧ w.cell? ⟨b, off + i * 7 + 2, none⟩ = some (.int .i64 l[i].len) ∧ w.cell? ⟨b, off + i * 7 + 3, none⟩ = some (.int .i64 l[i].grd) ∧ w.cell? ⟨b, off + i * 7 + 4, none⟩ = some (.int .i64 l[i].spd) ∧ w.cell? ⟨b, off + i * 7 + 5, none⟩ = some (.int .i64 l[i].slow) ∧ w.cell? ⟨b, off + i * 7 + 6, none⟩ = some (.int .i64 l[i].sec) := by
  obtain ⟨b, off, h1, h2, h3⟩ := h (by omega)
  obtain ⟨ys, ⟨rfl, h4⟩, h5⟩ := h3 i l[i] (List.getElem?_eq_getElem hi)
  exact ⟨b, off, h1, h2, h4, h5 0 _ rfl, h5 1 _ rfl, h5 2 _ rfl, h5 3 _ rfl, h5 4 _ rfl, h5 5 _ rfl, h5 6 _ rfl⟩
theorem RdS.elJ {l : List Jnt} (h : RdS cJ w S A l) {i : Nat} (hi : i < l.length) :
    ∃ b off, A = some ⟨b, off, none⟩ ∧ S b ∧ jntO l[i] ∧ w.cell? ⟨b, off + i * 4, none⟩ = some (.int .i64 l[i].a.el) ∧ w.cell? ⟨b, off + i * 4 + 1, none⟩ = some (.int .i64 l[i].a.sd) ∧ w.cell? ⟨b, off + i * 4 + 2, none⟩ = some (.int .i64 l[i].b.el) ∧ w.cell? ⟨b, off + i * 4 + 3, none⟩ = some (.int .i64 l[i].b.sd) := by
  obtain ⟨b, off, h1, h2, h3⟩ := h (by omega)
  obtain ⟨ys, ⟨rfl, h4⟩, h5⟩ := h3 i l[i] (List.getElem?_eq_getElem hi)
  exact ⟨b, off, h1, h2, h4, h5 0 _ rfl, h5 1 _ rfl, h5 2 _ rfl, h5 3 _ rfl⟩
theorem RdS.elG {l : List Sgn} (h : RdS cSg w S A l) {i : Nat} (hi : i < l.length) :
    ∃ b off, A = some ⟨b, off, none⟩ ∧ S b ∧ sgnO l[i] ∧ w.cell? ⟨b, off + i * 4, none⟩ = some (.string (bs l[i].name)) ∧ w.cell? ⟨b, off + i * 4 + 1, none⟩ = some (.int .i64 l[i].pos.el) ∧ w.cell? ⟨b, off + i * 4 + 2, none⟩ = some (.int .i64 l[i].pos.sd) ∧ w.cell? ⟨b, off + i * 4 + 3, none⟩ = some (.int .i64 l[i].ovl) := by
  obtain ⟨b, off, h1, h2, h3⟩ := h (by omega)
  obtain ⟨ys, ⟨rfl, h4⟩, h5⟩ := h3 i l[i] (List.getElem?_eq_getElem hi)
  exact ⟨b, off, h1, h2, h4, h5 0 _ rfl, h5 1 _ rfl, h5 2 _ rfl, h5 3 _ rfl⟩
theorem RdS.elB {l : List Bls} (h : RdS cBl w S A l) {i : Nat} (hi : i < l.length) :
    ∃ b off, A = some ⟨b, off, none⟩ ∧ S b ∧ blsO l[i] ∧ w.cell? ⟨b, off + i * 3, none⟩ = some (.int .i64 l[i].id) ∧ w.cell? ⟨b, off + i * 3 + 1, none⟩ = some (.int .i64 l[i].el) ∧ w.cell? ⟨b, off + i * 3 + 2, none⟩ = some (.int .i64 l[i].off) := by
  obtain ⟨b, off, h1, h2, h3⟩ := h (by omega)
  obtain ⟨ys, ⟨rfl, h4⟩, h5⟩ := h3 i l[i] (List.getElem?_eq_getElem hi)
  exact ⟨b, off, h1, h2, h4, h5 0 _ rfl, h5 1 _ rfl, h5 2 _ rfl⟩
theorem RdS.elS {l : List (List UInt8)} (h : RdS cS w S A l) {i : Nat} (hi : i < l.length) :
    ∃ b off, A = some ⟨b, off, none⟩ ∧ S b ∧ l[i].length ≤ maxLen ∧ w.cell? ⟨b, off + i, none⟩ = some (.string (bs l[i])) := by
  obtain ⟨b, off, h1, h2, h3⟩ := h (by omega)
  obtain ⟨ys, ⟨rfl, h4⟩, h5⟩ := h3 i l[i] (List.getElem?_eq_getElem hi)
  have := h5 0 _ rfl
  have e : off + i * cS.size + 0 = off + i := by simp [cS]
  rw [e] at this
  exact ⟨b, off, h1, h2, h4, this⟩
end
/-- A layout as a value: where its lists lie. -/
structure LV where
  l : Lay
  A1 : Option Addr
  A2 : Option Addr
  A3 : Option Addr
  A4 : Option Addr
  A5 : Option Addr
  c1 : Nat
  c2 : Nat
  c3 : Nat
  c4 : Nat
  c5 : Nat
def lvA (v : LV) : Value := .agg #[.string (bs v.l.name), .slice v.A1 v.l.secs.length v.c1, .slice v.A2 v.l.els.length v.c2, .slice v.A3 v.l.jts.length v.c3, .slice v.A4 v.l.sgs.length v.c4, .slice v.A5 v.l.bls.length v.c5]
structure LvR (w : World) (v : LV) : Prop where
  nm : v.l.name.length ≤ maxLen
  r1 : RdS cS w (Lt w) v.A1 v.l.secs
  r2 : RdS cE w (Lt w) v.A2 v.l.els
  r3 : RdS cJ w (Lt w) v.A3 v.l.jts
  r4 : RdS cSg w (Lt w) v.A4 v.l.sgs
  r5 : RdS cBl w (Lt w) v.A5 v.l.bls
  n1 : v.l.secs.length ≤ maxLen ∧ v.l.secs.length ≤ v.c1
  n2 : v.l.els.length ≤ maxLen ∧ v.l.els.length ≤ v.c2
  n3 : v.l.jts.length ≤ maxLen ∧ v.l.jts.length ≤ v.c3
  n4 : v.l.sgs.length ≤ maxLen ∧ v.l.sgs.length ≤ v.c4
  n5 : v.l.bls.length ≤ maxLen ∧ v.l.bls.length ≤ v.c5
theorem LvR.now {w w' : World} {v : LV} (h : LvR w v) (hb : Below w.heap.size w w') : LvR w' v :=
  ⟨h.nm, h.r1.now hb, h.r2.now hb, h.r3.now hb, h.r4.now hb, h.r5.now hb, h.n1, h.n2, h.n3, h.n4, h.n5⟩
/-- A layout boxed at the beginning of a call. -/
structure Bx (w0 w : World) (v : LV) : Prop where
  bel : Below w0.heap.size w0 w
  blk : Blk w w0.heap.size 28 #[.string (bs v.l.name), .slice v.A1 v.l.secs.length v.c1, .slice v.A2 v.l.els.length v.c2, .slice v.A3 v.l.jts.length v.c3, .slice v.A4 v.l.sgs.length v.c4, .slice v.A5 v.l.bls.length v.c5]
  rd : LvR w v
theorem Bx.new {w : World} {v : LV} (h : LvR w v) : Bx w (w.alloc (.cells #[.string (bs v.l.name), .slice v.A1 v.l.secs.length v.c1, .slice v.A2 v.l.els.length v.c2, .slice v.A3 v.l.jts.length v.c3, .slice v.A4 v.l.sgs.length v.c4, .slice v.A5 v.l.bls.length v.c5] 28)) v :=
  have hb := (Below.refl w.heap.size w).alloc (Nat.le_refl _) (.cells #[.string (bs v.l.name), .slice v.A1 v.l.secs.length v.c1, .slice v.A2 v.l.els.length v.c2, .slice v.A3 v.l.jts.length v.c3, .slice v.A4 v.l.sgs.length v.c4, .slice v.A5 v.l.bls.length v.c5] 28)
  ⟨hb, Blk.new _ _ _ _ rfl, h.now hb⟩
section
variable {w0 w w' : World} {v : LV}
theorem Bx.now (h : Bx w0 w v) (hb : Below w.heap.size w w') : Bx w0 w' v := ⟨bel_then h.bel h.bel.size hb, h.blk.now hb, h.rd.now hb⟩
theorem Bx.alloc (h : Bx w0 w v) (o : Obj) : Bx w0 (w.alloc o) v := h.now ((Below.refl _ _).alloc (Nat.le_refl _) o)
theorem Bx.drew (h : Bx w0 w v) : Bx w0 w.drew v := h.now (Below.refl _ _).drew
theorem Bx.lt (h : Bx w0 w v) : w0.heap.size < w.heap.size := h.blk.lt
theorem Bx.x0 (h : Bx w0 w v) : w.cell? ⟨w0.heap.size, 0, none⟩ = some (.string (bs v.l.name)) := h.blk.cell 0
theorem Bx.x1 (h : Bx w0 w v) : w.cell? ⟨w0.heap.size, 1, none⟩ = some (.slice v.A1 v.l.secs.length v.c1) := h.blk.cell 1
theorem Bx.x2 (h : Bx w0 w v) : w.cell? ⟨w0.heap.size, 2, none⟩ = some (.slice v.A2 v.l.els.length v.c2) := h.blk.cell 2
theorem Bx.x3 (h : Bx w0 w v) : w.cell? ⟨w0.heap.size, 3, none⟩ = some (.slice v.A3 v.l.jts.length v.c3) := h.blk.cell 3
theorem Bx.x4 (h : Bx w0 w v) : w.cell? ⟨w0.heap.size, 4, none⟩ = some (.slice v.A4 v.l.sgs.length v.c4) := h.blk.cell 4
theorem Bx.x5 (h : Bx w0 w v) : w.cell? ⟨w0.heap.size, 5, none⟩ = some (.slice v.A5 v.l.bls.length v.c5) := h.blk.cell 5
end
/-- .. and of the table of sides. -/
structure EnvS (w : World) : Prop extends EnvR w where
  sides : Lib.TabIs Tryz.prog w "signalling/rail.sides" .i64 [0, 2, 3, 4]
theorem EnvS.now {w w' : World} (E : EnvS w) (hb : Below w.heap.size w w') : EnvS w' := ⟨E.toEnvR.now hb, Lib.tabBelow_of_tabIs E.sides _ hb⟩
theorem ret_iL {a b : Int} (h : a = b) : Ending.returned (.int .i64 a) = .returned (.int .i64 b) := by rw [h]
theorem fields_of {P : Program} {t : TypeId} {fs : Array Field} (h : P.underlying t = some (.struct fs)) : P.fieldsOf t = fs := by unfold Program.fieldsOf; rw [h]
theorem stoodEnd : Tryz.prog.stoodInHeld 37 = false := by kernel_rfl
set_option maxHeartbeats 1000000 in
theorem eq_end (w : World) (d : Nat) (x y : End2) : (Op.equalIn (d + 2) 37 (.agg #[.int .i64 x.el, .int .i64 x.sd]) (.agg #[.int .i64 y.el, .int .i64 y.sd])).run Tryz.prog w = .ok (decide (x = y)) w := by
  have h3 := Tryz.underlying3
  have hf := fields_of Tryz.underlying37
  rw [run_equalIn_struct w (d + 1) 37 _ _ (by rw [hf, Tryz.underlying37]) stoodEnd, hf]
  obtain ⟨x0, x1⟩ := x
  obtain ⟨y0, y1⟩ := y
  by_cases e0 : x0 = y0
  case neg => simp [go_sem, e0]
  subst e0
  by_cases e1 : x1 = y1
  case neg => simp [go_sem, e1]
  subst e1
  simp [go_sem]
end Go.Proofs.YtopoknocfoiiaaaGreatDoor
