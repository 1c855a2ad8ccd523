/- How tables lie in memory. -/
import Derived.Test.YtlblfblkallnhaaGreatDoorTbPL
import Derived.Test.YtlblfblkallnhaaGreatDoorRow
namespace Go.Proofs.YtlblfblkallnhaaGreatDoor
set_option linter.unusedVariables false
set_option linter.unusedSimpArgs false
open Go.RowKit
def cStp : Cod Stp where
  size := 3
  rd := fun _ _ cs x => cs = [.int .i64 x.el, .int .i64 x.inn, .int .i64 x.out] ∧ (I64n x.el ∧ I64n x.inn ∧ I64n x.out)
  fit := fun _ => True
  len := fun h => by rw [h.1]; rfl
  keep := fun h _ => h
  more := fun h _ => h
def cStg : Cod Stg where
  size := 2
  rd := fun _ _ cs x => cs = [.int .i64 x.el, .int .i64 x.pos] ∧ (I64n x.el ∧ I64n x.pos)
  fit := fun _ => True
  len := fun h => by rw [h.1]; rfl
  keep := fun h _ => h
  more := fun h _ => h
def cEnd : Cod End2 where
  size := 2
  rd := fun _ _ cs x => cs = [.int .i64 x.el, .int .i64 x.sd] ∧ (I64n x.el ∧ I64n x.sd)
  fit := fun _ => True
  len := fun h => by rw [h.1]; rfl
  keep := fun h _ => h
  more := fun h _ => h
/-- A route as a value: the data, and where its lists lie. -/
structure RouV where
  r : Rou
  A1 : Option Addr
  A2 : Option Addr
  A3 : Option Addr
  A4 : Option Addr
  A5 : Option Addr
  A6 : Option Addr
  A7 : Option Addr
  A8 : Option Addr
  A9 : Option Addr
  c1 : Nat
  c2 : Nat
  c3 : Nat
  c4 : Nat
  c5 : Nat
  c6 : Nat
  c7 : Nat
  c8 : Nat
  c9 : Nat
def rouV (v : RouV) : List Value := [.string (bs v.r.name), .int .i64 v.r.ent, .int .i64 v.r.ext, .slice v.A1 v.r.path.length v.c1, .slice v.A2 v.r.pts.length v.c2, .slice v.A3 v.r.secs.length v.c3, .int .i64 v.r.app, .int .i64 v.r.len, .slice v.A4 v.r.over.length v.c4, .slice v.A5 v.r.opts.length v.c5, .slice v.A6 v.r.osecs.length v.c6, .slice v.A7 v.r.flk.length v.c7, .slice v.A8 v.r.grd.length v.c8, .slice v.A9 v.r.gap.length v.c9]
structure RvO (v : RouV) : Prop where
  nm : v.r.name.length ≤ maxLen
  ent : I64n v.r.ent
  ext : I64n v.r.ext
  app : I64n v.r.app
  len : I64n v.r.len
  n1 : v.r.path.length ≤ maxLen ∧ v.r.path.length ≤ v.c1
  n2 : v.r.pts.length ≤ maxLen ∧ v.r.pts.length ≤ v.c2
  n3 : v.r.secs.length ≤ maxLen ∧ v.r.secs.length ≤ v.c3
  n4 : v.r.over.length ≤ maxLen ∧ v.r.over.length ≤ v.c4
  n5 : v.r.opts.length ≤ maxLen ∧ v.r.opts.length ≤ v.c5
  n6 : v.r.osecs.length ≤ maxLen ∧ v.r.osecs.length ≤ v.c6
  n7 : v.r.flk.length ≤ maxLen ∧ v.r.flk.length ≤ v.c7
  n8 : v.r.grd.length ≤ maxLen ∧ v.r.grd.length ≤ v.c8
  n9 : v.r.gap.length ≤ maxLen ∧ v.r.gap.length ≤ v.c9
structure RvR (w : World) (S : Nat → Prop) (v : RouV) : Prop where
  o : RvO v
  r1 : RdS cStp w S v.A1 v.r.path
  r2 : RdS cStg w S v.A2 v.r.pts
  r3 : RdS cI w S v.A3 v.r.secs
  r4 : RdS cStp w S v.A4 v.r.over
  r5 : RdS cStg w S v.A5 v.r.opts
  r6 : RdS cI w S v.A6 v.r.osecs
  r7 : RdS cStg w S v.A7 v.r.flk
  r8 : RdS cI w S v.A8 v.r.grd
  r9 : RdS cEnd w S v.A9 v.r.gap
section
variable {w w' : World} {S S' : Nat → Prop} {v : RouV}
theorem RvR.keep (h : RvR w S v) (hk : ∀ p : Addr, S p.block → w'.cell? p = w.cell? p) : RvR w' S v := ⟨h.o, h.r1.keep hk, h.r2.keep hk, h.r3.keep hk, h.r4.keep hk, h.r5.keep hk, h.r6.keep hk, h.r7.keep hk, h.r8.keep hk, h.r9.keep hk⟩
theorem RvR.more (h : RvR w S v) (hS : ∀ b, S b → S' b) : RvR w S' v := ⟨h.o, h.r1.more hS, h.r2.more hS, h.r3.more hS, h.r4.more hS, h.r5.more hS, h.r6.more hS, h.r7.more hS, h.r8.more hS, h.r9.more hS⟩
theorem RvR.now (h : RvR w (Lt w) v) (hb : Below w.heap.size w w') : RvR w' (Lt w') v := (h.keep fun _ hp => hb.cell hp).more fun _ h => Nat.lt_of_lt_of_le h hb.size
end
def cR : Cod Rou where
  size := 14
  rd := fun w S cs r => ∃ v : RouV, v.r = r ∧ cs = rouV v ∧ RvR w S v
  fit := fun _ => True
  len := fun ⟨_, _, h, _⟩ => by rw [h]; rfl
  keep := fun ⟨v, h1, h2, h3⟩ hk => ⟨v, h1, h2, h3.keep hk⟩
  more := fun ⟨v, h1, h2, h3⟩ hS => ⟨v, h1, h2, h3.more hS⟩
section
variable {w : World} {S : Nat → Prop} {A : Option Addr}
theorem RdS.elR {l : List Rou} (h : RdS cR w S A l) {i : Nat} (hi : i < l.length) : ∃ b off v, A = some ⟨b, off, none⟩ ∧ S b ∧ v.r = l[i] ∧ RvR w S v ∧ w.cell? ⟨b, off + i * 14, none⟩ = some (.string (bs v.r.name)) ∧ w.cell? ⟨b, off + i * 14 + 1, none⟩ = some (.int .i64 v.r.ent) ∧ w.cell? ⟨b, off + i * 14 + 2, none⟩ = some (.int .i64 v.r.ext) ∧ w.cell? ⟨b, off + i * 14 + 3, none⟩ = some (.slice v.A1 v.r.path.length v.c1) ∧ w.cell? ⟨b, off + i * 14 + 4, none⟩ = some (.slice v.A2 v.r.pts.length v.c2) ∧ w.cell? ⟨b, off + i * 14 + 5, none⟩ = some (.slice v.A3 v.r.secs.length v.c3) ∧ w.cell? ⟨b, off + i * 14 + 6, none⟩ = some (.int .i64 v.r.app) ∧ w.cell? ⟨b, off + i * 14 + 7, none⟩ = some (.int .i64 v.r.len) ∧ w.cell? ⟨b, off + i * 14 + 8, none⟩ = some (.slice v.A4 v.r.over.length v.c4) ∧ w.cell? ⟨b, off + i * 14 + 9, none⟩ = some (.slice v.A5 v.r.opts.length v.c5) ∧ w.cell? ⟨b, off + i * 14 + 10, none⟩ = some (.slice v.A6 v.r.osecs.length v.c6) ∧ w.cell? ⟨b, off + i * 14 + 11, none⟩ = some (.slice v.A7 v.r.flk.length v.c7) ∧ w.cell? ⟨b, off + i * 14 + 12, none⟩ = some (.slice v.A8 v.r.grd.length v.c8) ∧ w.cell? ⟨b, off + i * 14 + 13, none⟩ = some (.slice v.A9 v.r.gap.length v.c9) := by
  obtain ⟨b, off, h1, h2, h3⟩ := h (by omega)
  obtain ⟨ys, ⟨v, h4, rfl, h5⟩, h6⟩ := h3 i l[i] (List.getElem?_eq_getElem hi)
  exact ⟨b, off, v, h1, h2, h4, h5, h6 0 _ rfl, h6 1 _ rfl, h6 2 _ rfl, h6 3 _ rfl, h6 4 _ rfl, h6 5 _ rfl, h6 6 _ rfl, h6 7 _ rfl, h6 8 _ rfl, h6 9 _ rfl, h6 10 _ rfl, h6 11 _ rfl, h6 12 _ rfl, h6 13 _ rfl⟩
theorem RdS.elT {l : List Stp} (h : RdS cStp w S A l) {i : Nat} (hi : i < l.length) : ∃ b off, A = some ⟨b, off, none⟩ ∧ S b ∧ (I64n l[i].el ∧ I64n l[i].inn ∧ I64n l[i].out) ∧ w.cell? ⟨b, off + i * 3, none⟩ = some (.int .i64 l[i].el) ∧ w.cell? ⟨b, off + i * 3 + 1, none⟩ = some (.int .i64 l[i].inn) ∧ w.cell? ⟨b, off + i * 3 + 2, none⟩ = some (.int .i64 l[i].out) := by
  obtain ⟨b, off, h1, h2, h3⟩ := h (by omega)
  obtain ⟨ys, ⟨rfl, h4⟩, h5⟩ := h3 i l[i] (List.getElem?_eq_getElem hi)
  exact ⟨b, off, h1, h2, h4, h5 0 _ rfl, h5 1 _ rfl, h5 2 _ rfl⟩
theorem RdS.elG {l : List Stg} (h : RdS cStg w S A l) {i : Nat} (hi : i < l.length) : ∃ b off, A = some ⟨b, off, none⟩ ∧ S b ∧ (I64n l[i].el ∧ I64n l[i].pos) ∧ w.cell? ⟨b, off + i * 2, none⟩ = some (.int .i64 l[i].el) ∧ w.cell? ⟨b, off + i * 2 + 1, none⟩ = some (.int .i64 l[i].pos) := by
  obtain ⟨b, off, h1, h2, h3⟩ := h (by omega)
  obtain ⟨ys, ⟨rfl, h4⟩, h5⟩ := h3 i l[i] (List.getElem?_eq_getElem hi)
  exact ⟨b, off, h1, h2, h4, h5 0 _ rfl, h5 1 _ rfl⟩
theorem RdS.elD {l : List End2} (h : RdS cEnd w S A l) {i : Nat} (hi : i < l.length) : ∃ b off, A = some ⟨b, off, none⟩ ∧ S b ∧ (I64n l[i].el ∧ I64n l[i].sd) ∧ w.cell? ⟨b, off + i * 2, none⟩ = some (.int .i64 l[i].el) ∧ w.cell? ⟨b, off + i * 2 + 1, none⟩ = some (.int .i64 l[i].sd) := by
  obtain ⟨b, off, h1, h2, h3⟩ := h (by omega)
  obtain ⟨ys, ⟨rfl, h4⟩, h5⟩ := h3 i l[i] (List.getElem?_eq_getElem hi)
  exact ⟨b, off, h1, h2, h4, h5 0 _ rfl, h5 1 _ rfl⟩
theorem RdS.elI {l : List Int} (h : RdS cI w S A l) {i : Nat} (hi : i < l.length) : ∃ b off, A = some ⟨b, off, none⟩ ∧ S b ∧ I64n l[i] ∧ w.cell? ⟨b, off + i, none⟩ = some (.int .i64 l[i]) := by
  obtain ⟨b, off, h1, h2, h3⟩ := h (by omega)
  obtain ⟨ys, ⟨rfl, h4⟩, h5⟩ := h3 i l[i] (List.getElem?_eq_getElem hi)
  have := h5 0 _ rfl
  have e : off + i * cI.size + 0 = off + i := by simp [cI]
  rw [e] at this
  exact ⟨b, off, h1, h2, h4, this⟩
end
/-- A table as a value. -/
structure TabV where
  t : Tab
  A1 : Option Addr
  A2 : Option Addr
  A3 : Option Addr
  c1 : Nat
  c2 : Nat
  c3 : Nat
def tvA (v : TabV) : Value := .agg #[.slice v.A1 v.t.rts.length v.c1, .slice v.A2 v.t.pts.length v.c2, .slice v.A3 v.t.homes.length v.c3, .int .i64 v.t.nsec, .int .i64 v.t.nsig]
structure TvR (w : World) (v : TabV) : Prop where
  r1 : RdS cR w (Lt w) v.A1 v.t.rts
  r2 : RdS cI w (Lt w) v.A2 v.t.pts
  r3 : RdS cI w (Lt w) v.A3 v.t.homes
  n1 : v.t.rts.length ≤ maxLen ∧ v.t.rts.length ≤ v.c1
  n2 : v.t.pts.length ≤ maxLen ∧ v.t.pts.length ≤ v.c2
  n3 : v.t.homes.length ≤ maxLen ∧ v.t.homes.length ≤ v.c3
  sec : I64n v.t.nsec
  sig : I64n v.t.nsig
theorem TvR.now {w w' : World} {v : TabV} (h : TvR w v) (hb : Below w.heap.size w w') : TvR w' v := ⟨h.r1.now hb, h.r2.now hb, h.r3.now hb, h.n1, h.n2, h.n3, h.sec, h.sig⟩
/-- A table boxed at the beginning of a call. -/
structure Bx (w0 w : World) (v : TabV) : Prop where
  bel : Below w0.heap.size w0 w
  blk : Blk w w0.heap.size 25 #[.slice v.A1 v.t.rts.length v.c1, .slice v.A2 v.t.pts.length v.c2, .slice v.A3 v.t.homes.length v.c3, .int .i64 v.t.nsec, .int .i64 v.t.nsig]
  rd : TvR w v
section
variable {w0 w w' : World} {v : TabV}
theorem Bx.new (h : TvR w v) : Bx w (w.alloc (.cells #[.slice v.A1 v.t.rts.length v.c1, .slice v.A2 v.t.pts.length v.c2, .slice v.A3 v.t.homes.length v.c3, .int .i64 v.t.nsec, .int .i64 v.t.nsig] 25)) v :=
  have hb := (Below.refl w.heap.size w).alloc (Nat.le_refl _) (.cells #[.slice v.A1 v.t.rts.length v.c1, .slice v.A2 v.t.pts.length v.c2, .slice v.A3 v.t.homes.length v.c3, .int .i64 v.t.nsec, .int .i64 v.t.nsig] 25)
  ⟨hb, Blk.new _ _ _ _ rfl, h.now hb⟩
theorem Bx.now (h : Bx w0 w v) (hb : Below w.heap.size w w') : Bx w0 w' v := ⟨bel_then h.bel h.bel.size hb, h.blk.now hb, h.rd.now hb⟩
theorem Bx.alloc (h : Bx w0 w v) (o : Obj) : Bx w0 (w.alloc o) v := h.now ((Below.refl _ _).alloc (Nat.le_refl _) o)
theorem Bx.drew (h : Bx w0 w v) : Bx w0 w.drew v := h.now (Below.refl _ _).drew
theorem Bx.lt (h : Bx w0 w v) : w0.heap.size < w.heap.size := h.blk.lt
theorem Bx.x0 (h : Bx w0 w v) : w.cell? ⟨w0.heap.size, 0, none⟩ = some (.slice v.A1 v.t.rts.length v.c1) := h.blk.cell 0
theorem Bx.x1 (h : Bx w0 w v) : w.cell? ⟨w0.heap.size, 1, none⟩ = some (.slice v.A2 v.t.pts.length v.c2) := h.blk.cell 1
theorem Bx.x2 (h : Bx w0 w v) : w.cell? ⟨w0.heap.size, 2, none⟩ = some (.slice v.A3 v.t.homes.length v.c3) := h.blk.cell 2
theorem Bx.x3 (h : Bx w0 w v) : w.cell? ⟨w0.heap.size, 3, none⟩ = some (.int .i64 v.t.nsec) := h.blk.cell 3
theorem Bx.x4 (h : Bx w0 w v) : w.cell? ⟨w0.heap.size, 4, none⟩ = some (.int .i64 v.t.nsig) := h.blk.cell 4
end
/-- A route boxed. -/
structure RBx (g : Nat) (v : RouV) (w : World) : Prop where
  blk : Blk w g 41 #[.string (bs v.r.name), .int .i64 v.r.ent, .int .i64 v.r.ext, .slice v.A1 v.r.path.length v.c1, .slice v.A2 v.r.pts.length v.c2, .slice v.A3 v.r.secs.length v.c3, .int .i64 v.r.app, .int .i64 v.r.len, .slice v.A4 v.r.over.length v.c4, .slice v.A5 v.r.opts.length v.c5, .slice v.A6 v.r.osecs.length v.c6, .slice v.A7 v.r.flk.length v.c7, .slice v.A8 v.r.grd.length v.c8, .slice v.A9 v.r.gap.length v.c9]
  rd : RvR w (Lt w) v
section
variable {g : Nat} {w w' : World} {v : RouV}
theorem RBx.now (h : RBx g v w) (hb : Below w.heap.size w w') : RBx g v w' := ⟨h.blk.now hb, h.rd.now hb⟩
theorem RBx.new (h : RvR w (Lt w) v) : RBx w.heap.size v (w.alloc (.cells #[.string (bs v.r.name), .int .i64 v.r.ent, .int .i64 v.r.ext, .slice v.A1 v.r.path.length v.c1, .slice v.A2 v.r.pts.length v.c2, .slice v.A3 v.r.secs.length v.c3, .int .i64 v.r.app, .int .i64 v.r.len, .slice v.A4 v.r.over.length v.c4, .slice v.A5 v.r.opts.length v.c5, .slice v.A6 v.r.osecs.length v.c6, .slice v.A7 v.r.flk.length v.c7, .slice v.A8 v.r.grd.length v.c8, .slice v.A9 v.r.gap.length v.c9] 41)) := ⟨Blk.new _ _ _ _ rfl, h.now ((Below.refl _ _).alloc (Nat.le_refl _) _)⟩
theorem RBx.x0 (h : RBx g v w) : w.cell? ⟨g, 0, none⟩ = some (.string (bs v.r.name)) := h.blk.cell 0
theorem RBx.x1 (h : RBx g v w) : w.cell? ⟨g, 1, none⟩ = some (.int .i64 v.r.ent) := h.blk.cell 1
theorem RBx.x2 (h : RBx g v w) : w.cell? ⟨g, 2, none⟩ = some (.int .i64 v.r.ext) := h.blk.cell 2
theorem RBx.x3 (h : RBx g v w) : w.cell? ⟨g, 3, none⟩ = some (.slice v.A1 v.r.path.length v.c1) := h.blk.cell 3
theorem RBx.x4 (h : RBx g v w) : w.cell? ⟨g, 4, none⟩ = some (.slice v.A2 v.r.pts.length v.c2) := h.blk.cell 4
theorem RBx.x5 (h : RBx g v w) : w.cell? ⟨g, 5, none⟩ = some (.slice v.A3 v.r.secs.length v.c3) := h.blk.cell 5
theorem RBx.x6 (h : RBx g v w) : w.cell? ⟨g, 6, none⟩ = some (.int .i64 v.r.app) := h.blk.cell 6
theorem RBx.x7 (h : RBx g v w) : w.cell? ⟨g, 7, none⟩ = some (.int .i64 v.r.len) := h.blk.cell 7
theorem RBx.x8 (h : RBx g v w) : w.cell? ⟨g, 8, none⟩ = some (.slice v.A4 v.r.over.length v.c4) := h.blk.cell 8
theorem RBx.x9 (h : RBx g v w) : w.cell? ⟨g, 9, none⟩ = some (.slice v.A5 v.r.opts.length v.c5) := h.blk.cell 9
theorem RBx.x10 (h : RBx g v w) : w.cell? ⟨g, 10, none⟩ = some (.slice v.A6 v.r.osecs.length v.c6) := h.blk.cell 10
theorem RBx.x11 (h : RBx g v w) : w.cell? ⟨g, 11, none⟩ = some (.slice v.A7 v.r.flk.length v.c7) := h.blk.cell 11
theorem RBx.x12 (h : RBx g v w) : w.cell? ⟨g, 12, none⟩ = some (.slice v.A8 v.r.grd.length v.c8) := h.blk.cell 12
theorem RBx.x13 (h : RBx g v w) : w.cell? ⟨g, 13, none⟩ = some (.slice v.A9 v.r.gap.length v.c9) := h.blk.cell 13
end
end Go.Proofs.YtlblfblkallnhaaGreatDoor
