/- What is known in a round over the joints, the signals, the balises. -/
import Derived.Test.YtopoknocfoiiaaaGreatDoorPlPrintA
namespace Go.Proofs.YtopoknocfoiiaaaGreatDoor
set_option linter.unusedVariables false
set_option linter.unusedSimpArgs false
open Go.RowKit
theorem nmAt_in {l : Lay} {i : Int} {k : Nat} (hi : i = (k : Int)) (h : k < l.els.length) : nmAt l i = l.els[k].name := by
  unfold nmAt
  rw [hi, Int.toNat_natCast, List.getElem?_eq_getElem h]
  rfl
/-- What stays as it was. -/
structure JSF (w : World) (v : LV) (a2 : Option Addr) (q : Jnt) (b2 o2 ka kb : Nat) (nka nkb : List UInt8) : Prop where
  ha : v.A2 = a2
  hb : b2 < w.heap.size
  hka : q.a.el = (ka : Int)
  cka : w.cell? ⟨b2, o2 + ka * 7, none⟩ = some (.string (bs nka))
  hkb : q.b.el = (kb : Int)
  ckb : w.cell? ⟨b2, o2 + kb * 7, none⟩ = some (.string (bs nkb))
def JS (w : World) (v : LV) (s : Value) (lns : Lns) (a2 : Option Addr) (gq : Nat) (q : Jnt) (b2 o2 ka kb : Nat) (nka nkb : List UInt8) (W : World) : Prop := W.cell? ⟨gq, 1, none⟩ = some (.int .i64 q.a.sd) ∧ W.cell? ⟨gq, 3, none⟩ = some (.int .i64 q.b.sd) ∧ W.cell? ⟨gq, 0, none⟩ = some (.int .i64 (ka : Int)) ∧ W.cell? ⟨gq, 2, none⟩ = some (.int .i64 (kb : Int)) ∧ W.cell? ⟨w.heap.size, 2, none⟩ = some (.slice a2 v.l.els.length v.c2) ∧ W.cell? ⟨b2, o2 + ka * 7, none⟩ = some (.string (bs nka)) ∧ W.cell? ⟨b2, o2 + kb * 7, none⟩ = some (.string (bs nkb)) ∧ (Ln w W v s lns ∧ Blk W gq 39 #[.int .i64 q.a.el, .int .i64 q.a.sd, .int .i64 q.b.el, .int .i64 q.b.sd])
section
variable {w W W' : World} {v : LV} {s : Value} {lns : Lns} {a2 : Option Addr} {gq : Nat} {q : Jnt} {b2 o2 ka kb : Nat} {nka nkb : List UInt8}
theorem JS.mk (F : JSF w v a2 q b2 o2 ka kb nka nkb) (h : Ln w W v s lns) (hk : Blk W gq 39 #[.int .i64 q.a.el, .int .i64 q.a.sd, .int .i64 q.b.el, .int .i64 q.b.sd]) : JS w v s lns a2 gq q b2 o2 ka kb nka nkb W :=
  ⟨hk.cell 1, hk.cell 3, F.hka ▸ hk.cell 0, F.hkb ▸ hk.cell 2, F.ha ▸ h.1.x2, (h.bel.cell (p := ⟨b2, o2 + ka * 7, none⟩) F.hb).trans F.cka, (h.bel.cell (p := ⟨b2, o2 + kb * 7, none⟩) F.hb).trans F.ckb, h, hk⟩
theorem JS.all (h : JS w v s lns a2 gq q b2 o2 ka kb nka nkb W) : Ln w W v s lns ∧ Blk W gq 39 #[.int .i64 q.a.el, .int .i64 q.a.sd, .int .i64 q.b.el, .int .i64 q.b.sd] := h.2.2.2.2.2.2.2
theorem JS.now (F : JSF w v a2 q b2 o2 ka kb nka nkb) (h : JS w v s lns a2 gq q b2 o2 ka kb nka nkb W) (hb : Below W.heap.size W W') : JS w v s lns a2 gq q b2 o2 ka kb nka nkb W' := JS.mk F (h.all.1.now hb) (h.all.2.now hb)
theorem JS.push (F : JSF w v a2 q b2 o2 ka kb nka nkb) (h : JS w v s lns a2 gq q b2 o2 ka kb nka nkb W) (hl : Ln w W' v s lns) (hf : Frm w.heap.size 22 W W') : JS w v s lns a2 gq q b2 o2 ka kb nka nkb W' := JS.mk F hl (hf.blk h.all.2 (by decide))
end
/-- What stays as it was. -/
structure GSF (w : World) (v : LV) (a2 : Option Addr) (q : Sgn) (b2 o2 ka : Nat) (nka : List UInt8) : Prop where
  ha : v.A2 = a2
  hb : b2 < w.heap.size
  hka : q.pos.el = (ka : Int)
  cka : w.cell? ⟨b2, o2 + ka * 7, none⟩ = some (.string (bs nka))
def GS (w : World) (v : LV) (s : Value) (lns : Lns) (a2 : Option Addr) (gq : Nat) (q : Sgn) (b2 o2 ka : Nat) (nka : List UInt8) (W : World) : Prop := W.cell? ⟨gq, 0, none⟩ = some (.string (bs q.name)) ∧ W.cell? ⟨gq, 2, none⟩ = some (.int .i64 q.pos.sd) ∧ W.cell? ⟨gq, 3, none⟩ = some (.int .i64 q.ovl) ∧ W.cell? ⟨gq, 1, none⟩ = some (.int .i64 (ka : Int)) ∧ W.cell? ⟨w.heap.size, 2, none⟩ = some (.slice a2 v.l.els.length v.c2) ∧ W.cell? ⟨b2, o2 + ka * 7, none⟩ = some (.string (bs nka)) ∧ (Ln w W v s lns ∧ Blk W gq 41 #[.string (bs q.name), .int .i64 q.pos.el, .int .i64 q.pos.sd, .int .i64 q.ovl])
section
variable {w W W' : World} {v : LV} {s : Value} {lns : Lns} {a2 : Option Addr} {gq : Nat} {q : Sgn} {b2 o2 ka : Nat} {nka : List UInt8}
theorem GS.mk (F : GSF w v a2 q b2 o2 ka nka) (h : Ln w W v s lns) (hk : Blk W gq 41 #[.string (bs q.name), .int .i64 q.pos.el, .int .i64 q.pos.sd, .int .i64 q.ovl]) : GS w v s lns a2 gq q b2 o2 ka nka W :=
  ⟨hk.cell 0, hk.cell 2, hk.cell 3, F.hka ▸ hk.cell 1, F.ha ▸ h.1.x2, (h.bel.cell (p := ⟨b2, o2 + ka * 7, none⟩) F.hb).trans F.cka, h, hk⟩
theorem GS.all (h : GS w v s lns a2 gq q b2 o2 ka nka W) : Ln w W v s lns ∧ Blk W gq 41 #[.string (bs q.name), .int .i64 q.pos.el, .int .i64 q.pos.sd, .int .i64 q.ovl] := h.2.2.2.2.2.2
theorem GS.now (F : GSF w v a2 q b2 o2 ka nka) (h : GS w v s lns a2 gq q b2 o2 ka nka W) (hb : Below W.heap.size W W') : GS w v s lns a2 gq q b2 o2 ka nka W' := GS.mk F (h.all.1.now hb) (h.all.2.now hb)
theorem GS.push (F : GSF w v a2 q b2 o2 ka nka) (h : GS w v s lns a2 gq q b2 o2 ka nka W) (hl : Ln w W' v s lns) (hf : Frm w.heap.size 22 W W') : GS w v s lns a2 gq q b2 o2 ka nka W' := GS.mk F hl (hf.blk h.all.2 (by decide))
end
/-- What stays as it was. -/
structure BSF (w : World) (v : LV) (a2 : Option Addr) (q : Bls) (b2 o2 ka : Nat) (nka : List UInt8) : Prop where
  ha : v.A2 = a2
  hb : b2 < w.heap.size
  hka : q.el = (ka : Int)
  cka : w.cell? ⟨b2, o2 + ka * 7, none⟩ = some (.string (bs nka))
def BS (w : World) (v : LV) (s : Value) (lns : Lns) (a2 : Option Addr) (gq : Nat) (q : Bls) (b2 o2 ka : Nat) (nka : List UInt8) (W : World) : Prop := W.cell? ⟨gq, 0, none⟩ = some (.int .i64 q.id) ∧ W.cell? ⟨gq, 2, none⟩ = some (.int .i64 q.off) ∧ W.cell? ⟨gq, 1, none⟩ = some (.int .i64 (ka : Int)) ∧ W.cell? ⟨w.heap.size, 2, none⟩ = some (.slice a2 v.l.els.length v.c2) ∧ W.cell? ⟨b2, o2 + ka * 7, none⟩ = some (.string (bs nka)) ∧ (Ln w W v s lns ∧ Blk W gq 51 #[.int .i64 q.id, .int .i64 q.el, .int .i64 q.off])
section
variable {w W W' : World} {v : LV} {s : Value} {lns : Lns} {a2 : Option Addr} {gq : Nat} {q : Bls} {b2 o2 ka : Nat} {nka : List UInt8}
theorem BS.mk (F : BSF w v a2 q b2 o2 ka nka) (h : Ln w W v s lns) (hk : Blk W gq 51 #[.int .i64 q.id, .int .i64 q.el, .int .i64 q.off]) : BS w v s lns a2 gq q b2 o2 ka nka W :=
  ⟨hk.cell 0, hk.cell 2, F.hka ▸ hk.cell 1, F.ha ▸ h.1.x2, (h.bel.cell (p := ⟨b2, o2 + ka * 7, none⟩) F.hb).trans F.cka, h, hk⟩
theorem BS.all (h : BS w v s lns a2 gq q b2 o2 ka nka W) : Ln w W v s lns ∧ Blk W gq 51 #[.int .i64 q.id, .int .i64 q.el, .int .i64 q.off] := h.2.2.2.2.2
theorem BS.now (F : BSF w v a2 q b2 o2 ka nka) (h : BS w v s lns a2 gq q b2 o2 ka nka W) (hb : Below W.heap.size W W') : BS w v s lns a2 gq q b2 o2 ka nka W' := BS.mk F (h.all.1.now hb) (h.all.2.now hb)
theorem BS.push (F : BSF w v a2 q b2 o2 ka nka) (h : BS w v s lns a2 gq q b2 o2 ka nka W) (hl : Ln w W' v s lns) (hf : Frm w.heap.size 22 W W') : BS w v s lns a2 gq q b2 o2 ka nka W' := BS.mk F hl (hf.blk h.all.2 (by decide))
end
end Go.Proofs.YtopoknocfoiiaaaGreatDoor
