/- What the reader's box is behind a new element of one of its lists. -/
import Derived.Test.YtopoknocfoiiaaaGreatDoorPlReadA
namespace Go.Proofs.YtopoknocfoiiaaaGreatDoor
set_option linter.unusedVariables false
set_option linter.unusedSimpArgs false
open Go.RowKit
/-- A codec that looks at no block. -/
def Flat {α : Type} (c : Cod α) : Prop := ∀ (w w' : World) (S S' : Nat → Prop) (ys : List Value) (x : α), c.rd w S ys x → c.rd w' S' ys x
theorem cS_flat : Flat cS := fun _ _ _ _ _ _ h => h
theorem cE_flat : Flat cE := fun _ _ _ _ _ _ h => h
theorem cJ_flat : Flat cJ := fun _ _ _ _ _ _ h => h
theorem cSg_flat : Flat cSg := fun _ _ _ _ _ _ h => h
theorem cBl_flat : Flat cBl := fun _ _ _ _ _ _ h => h
section
variable {α : Type} {c : Cod α} {w : World}
theorem RdC.flat (hc : Flat c) {S S' : Nat → Prop} : ∀ {l : List α} {xs : List Value}, RdC c w S xs l → RdC c w S' xs l
  | [], _, h => h
  | _ :: _, _, ⟨y, z, h1, h2, h3⟩ => ⟨y, z, h1, hc _ _ _ _ _ _ h2, RdC.flat hc h3⟩
theorem OwnR.low (hc : Flat c) {base B : Nat} {e : TypeId} {v : Value} {l : List α} (h : OwnR c w base e v l B) : OwnR c w base e v l 0 := by
  obtain ⟨xs, h1, h2, _⟩ := h
  exact ⟨xs, h1, h2.flat hc, Nat.zero_le _⟩
end
section
variable {w w' : World} {g : Nat} {l : Lay} {p : Int} {v1 v2 v3 v4 v5 u : Value} {B : Nat}
theorem RW.put1 (h : RW w g l p v1 v2 v3 v4 v5) (hf : Frm (g + 1) 9 w w') {x : List UInt8} (hn : OwnR cS w' (g + 1) 9 u (l.secs ++ [x]) B) : RW (w'.setCell ⟨g, 1, none⟩ u) g { l with secs := l.secs ++ [x] } p u v2 v3 v4 v5 := by
  have hb := hf.blk h.blk (by decide)
  exact ⟨hb.set 1 u, (hn.low cS_flat).set g 1 u _ _ hb (by decide) (Nat.zero_le _), (h.r2.frm hf (by decide) (Nat.zero_le _)).set g 1 u _ _ hb (by decide) (Nat.zero_le _), (h.r3.frm hf (by decide) (Nat.zero_le _)).set g 1 u _ _ hb (by decide) (Nat.zero_le _), (h.r4.frm hf (by decide) (Nat.zero_le _)).set g 1 u _ _ hb (by decide) (Nat.zero_le _), (h.r5.frm hf (by decide) (Nat.zero_le _)).set g 1 u _ _ hb (by decide) (Nat.zero_le _)⟩
theorem RW.put2 (h : RW w g l p v1 v2 v3 v4 v5) (hf : Frm (g + 1) 35 w w') {x : Elt} (hn : OwnR cE w' (g + 1) 35 u (l.els ++ [x]) B) : RW (w'.setCell ⟨g, 2, none⟩ u) g { l with els := l.els ++ [x] } p v1 u v3 v4 v5 := by
  have hb := hf.blk h.blk (by decide)
  exact ⟨hb.set 2 u, (h.r1.frm hf (by decide) (Nat.zero_le _)).set g 2 u _ _ hb (by decide) (Nat.zero_le _), (hn.low cE_flat).set g 2 u _ _ hb (by decide) (Nat.zero_le _), (h.r3.frm hf (by decide) (Nat.zero_le _)).set g 2 u _ _ hb (by decide) (Nat.zero_le _), (h.r4.frm hf (by decide) (Nat.zero_le _)).set g 2 u _ _ hb (by decide) (Nat.zero_le _), (h.r5.frm hf (by decide) (Nat.zero_le _)).set g 2 u _ _ hb (by decide) (Nat.zero_le _)⟩
theorem RW.put3 (h : RW w g l p v1 v2 v3 v4 v5) (hf : Frm (g + 1) 39 w w') {x : Jnt} (hn : OwnR cJ w' (g + 1) 39 u (l.jts ++ [x]) B) : RW (w'.setCell ⟨g, 3, none⟩ u) g { l with jts := l.jts ++ [x] } p v1 v2 u v4 v5 := by
  have hb := hf.blk h.blk (by decide)
  exact ⟨hb.set 3 u, (h.r1.frm hf (by decide) (Nat.zero_le _)).set g 3 u _ _ hb (by decide) (Nat.zero_le _), (h.r2.frm hf (by decide) (Nat.zero_le _)).set g 3 u _ _ hb (by decide) (Nat.zero_le _), (hn.low cJ_flat).set g 3 u _ _ hb (by decide) (Nat.zero_le _), (h.r4.frm hf (by decide) (Nat.zero_le _)).set g 3 u _ _ hb (by decide) (Nat.zero_le _), (h.r5.frm hf (by decide) (Nat.zero_le _)).set g 3 u _ _ hb (by decide) (Nat.zero_le _)⟩
theorem RW.put4 (h : RW w g l p v1 v2 v3 v4 v5) (hf : Frm (g + 1) 41 w w') {x : Sgn} (hn : OwnR cSg w' (g + 1) 41 u (l.sgs ++ [x]) B) : RW (w'.setCell ⟨g, 4, none⟩ u) g { l with sgs := l.sgs ++ [x] } p v1 v2 v3 u v5 := by
  have hb := hf.blk h.blk (by decide)
  exact ⟨hb.set 4 u, (h.r1.frm hf (by decide) (Nat.zero_le _)).set g 4 u _ _ hb (by decide) (Nat.zero_le _), (h.r2.frm hf (by decide) (Nat.zero_le _)).set g 4 u _ _ hb (by decide) (Nat.zero_le _), (h.r3.frm hf (by decide) (Nat.zero_le _)).set g 4 u _ _ hb (by decide) (Nat.zero_le _), (hn.low cSg_flat).set g 4 u _ _ hb (by decide) (Nat.zero_le _), (h.r5.frm hf (by decide) (Nat.zero_le _)).set g 4 u _ _ hb (by decide) (Nat.zero_le _)⟩
theorem RW.put5 (h : RW w g l p v1 v2 v3 v4 v5) (hf : Frm (g + 1) 51 w w') {x : Bls} (hn : OwnR cBl w' (g + 1) 51 u (l.bls ++ [x]) B) : RW (w'.setCell ⟨g, 5, none⟩ u) g { l with bls := l.bls ++ [x] } p v1 v2 v3 v4 u := by
  have hb := hf.blk h.blk (by decide)
  exact ⟨hb.set 5 u, (h.r1.frm hf (by decide) (Nat.zero_le _)).set g 5 u _ _ hb (by decide) (Nat.zero_le _), (h.r2.frm hf (by decide) (Nat.zero_le _)).set g 5 u _ _ hb (by decide) (Nat.zero_le _), (h.r3.frm hf (by decide) (Nat.zero_le _)).set g 5 u _ _ hb (by decide) (Nat.zero_le _), (h.r4.frm hf (by decide) (Nat.zero_le _)).set g 5 u _ _ hb (by decide) (Nat.zero_le _), (hn.low cBl_flat).set g 5 u _ _ hb (by decide) (Nat.zero_le _)⟩
theorem RW.put0 (h : RW w g l p v1 v2 v3 v4 v5) (s : List UInt8) : RW (w.setCell ⟨g, 0, none⟩ (.string (bs s))) g { l with name := s } p v1 v2 v3 v4 v5 :=
  ⟨h.blk.set 0 _, h.r1.set g 0 _ _ _ h.blk (by decide) (Nat.zero_le _), h.r2.set g 0 _ _ _ h.blk (by decide) (Nat.zero_le _), h.r3.set g 0 _ _ _ h.blk (by decide) (Nat.zero_le _), h.r4.set g 0 _ _ _ h.blk (by decide) (Nat.zero_le _), h.r5.set g 0 _ _ _ h.blk (by decide) (Nat.zero_le _)⟩
theorem RW.put6 (h : RW w g l p v1 v2 v3 v4 v5) (q : Int) : RW (w.setCell ⟨g, 6, none⟩ (.int .i64 q)) g l q v1 v2 v3 v4 v5 :=
  ⟨h.blk.set 6 _, h.r1.set g 6 _ _ _ h.blk (by decide) (Nat.zero_le _), h.r2.set g 6 _ _ _ h.blk (by decide) (Nat.zero_le _), h.r3.set g 6 _ _ _ h.blk (by decide) (Nat.zero_le _), h.r4.set g 6 _ _ _ h.blk (by decide) (Nat.zero_le _), h.r5.set g 6 _ _ _ h.blk (by decide) (Nat.zero_le _)⟩
end
end Go.Proofs.YtopoknocfoiiaaaGreatDoor
