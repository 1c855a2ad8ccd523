/- MessageReturns: for every argument. -/
import Derived.Test.YtlpkkcodmoklaaaMsgAlive
import Derived.Deep.Cut
namespace Go.Proofs.Ytlpkkcodmoklaaa
set_option linter.unusedVariables false
set_option linter.unusedSimpArgs false
open Go.RowKit
attribute [local go_sem] bs_size bs_get bs_append bs_extract bs_toList
/-- Three boxes: two messages that came in, and what was decoded. -/
structure Inv3 (w : World) (b1 b2 b3 : Nat) (m n : Msg) (A : Option Addr) (c : Nat) (A' : Option Addr) (c' : Nat) (B : Option Addr) (d : Nat) (B' : Option Addr) (d' : Nat) (E : Option Addr) (f : Nat) (E' : Option Addr) (f' : Nat) (w' : World) : Prop where
  two : Inv2 w b1 b2 m n A c A' c' B d B' d' w'
  box3 : Blk w' b3 69 #[.int .i64 m.kind, .int .i64 m.fro, .int .i64 m.to, .int .i64 m.seq, .int .i64 m.time, .int .i64 m.aseq, .int .i64 m.aend, .slice E m.prof.length f, .slice E' m.links.length f', .int .i64 m.min, .int .i64 m.speed, .int .i64 m.mode, .int .i64 m.acc, .bool m.whole]
  k1 : RdS cSeg w' w'.heap.size E m.prof
  k2 : RdS cLnk w' w'.heap.size E' m.links
section
variable {w w1 w2 : World} {b1 b2 b3 : Nat} {m n : Msg} {A B A' B' E E' : Option Addr} {c d c' d' f f' : Nat}
theorem Inv3.step (h : Inv3 w b1 b2 b3 m n A c A' c' B d B' d' E f E' f' w1) (hb : Below w1.heap.size w1 w2) : Inv3 w b1 b2 b3 m n A c A' c' B d B' d' E f E' f' w2 := ⟨h.two.step hb, h.box3.now hb, h.k1.now hb, h.k2.now hb⟩
theorem Inv3.cells (h : Inv3 w b1 b2 b3 m n A c A' c' B d B' d' E f E' f' w1) : w1.cell? ⟨b1, 0, none⟩ = some (.int .i64 m.kind) ∧ w1.cell? ⟨b1, 1, none⟩ = some (.int .i64 m.fro) ∧ w1.cell? ⟨b1, 2, none⟩ = some (.int .i64 m.to) ∧ w1.cell? ⟨b1, 3, none⟩ = some (.int .i64 m.seq) ∧ w1.cell? ⟨b1, 4, none⟩ = some (.int .i64 m.time) ∧ w1.cell? ⟨b1, 5, none⟩ = some (.int .i64 m.aseq) ∧ w1.cell? ⟨b1, 6, none⟩ = some (.int .i64 m.aend) ∧ w1.cell? ⟨b1, 7, none⟩ = some (.slice A m.prof.length c) ∧ w1.cell? ⟨b1, 8, none⟩ = some (.slice A' m.links.length c') ∧ w1.cell? ⟨b1, 9, none⟩ = some (.int .i64 m.min) ∧ w1.cell? ⟨b1, 10, none⟩ = some (.int .i64 m.speed) ∧ w1.cell? ⟨b1, 11, none⟩ = some (.int .i64 m.mode) ∧ w1.cell? ⟨b1, 12, none⟩ = some (.int .i64 m.acc) ∧ w1.cell? ⟨b1, 13, none⟩ = some (.bool m.whole) ∧ w1.cell? ⟨b2, 0, none⟩ = some (.int .i64 n.kind) ∧ w1.cell? ⟨b2, 1, none⟩ = some (.int .i64 n.fro) ∧ w1.cell? ⟨b2, 2, none⟩ = some (.int .i64 n.to) ∧ w1.cell? ⟨b2, 3, none⟩ = some (.int .i64 n.seq) ∧ w1.cell? ⟨b2, 4, none⟩ = some (.int .i64 n.time) ∧ w1.cell? ⟨b2, 5, none⟩ = some (.int .i64 n.aseq) ∧ w1.cell? ⟨b2, 6, none⟩ = some (.int .i64 n.aend) ∧ w1.cell? ⟨b2, 7, none⟩ = some (.slice B n.prof.length d) ∧ w1.cell? ⟨b2, 8, none⟩ = some (.slice B' n.links.length d') ∧ w1.cell? ⟨b2, 9, none⟩ = some (.int .i64 n.min) ∧ w1.cell? ⟨b2, 10, none⟩ = some (.int .i64 n.speed) ∧ w1.cell? ⟨b2, 11, none⟩ = some (.int .i64 n.mode) ∧ w1.cell? ⟨b2, 12, none⟩ = some (.int .i64 n.acc) ∧ w1.cell? ⟨b2, 13, none⟩ = some (.bool n.whole) ∧ w1.cell? ⟨b3, 0, none⟩ = some (.int .i64 m.kind) ∧ w1.cell? ⟨b3, 1, none⟩ = some (.int .i64 m.fro) ∧ w1.cell? ⟨b3, 2, none⟩ = some (.int .i64 m.to) ∧ w1.cell? ⟨b3, 3, none⟩ = some (.int .i64 m.seq) ∧ w1.cell? ⟨b3, 4, none⟩ = some (.int .i64 m.time) ∧ w1.cell? ⟨b3, 5, none⟩ = some (.int .i64 m.aseq) ∧ w1.cell? ⟨b3, 6, none⟩ = some (.int .i64 m.aend) ∧ w1.cell? ⟨b3, 7, none⟩ = some (.slice E m.prof.length f) ∧ w1.cell? ⟨b3, 8, none⟩ = some (.slice E' m.links.length f') ∧ w1.cell? ⟨b3, 9, none⟩ = some (.int .i64 m.min) ∧ w1.cell? ⟨b3, 10, none⟩ = some (.int .i64 m.speed) ∧ w1.cell? ⟨b3, 11, none⟩ = some (.int .i64 m.mode) ∧ w1.cell? ⟨b3, 12, none⟩ = some (.int .i64 m.acc) ∧ w1.cell? ⟨b3, 13, none⟩ = some (.bool m.whole) ∧ Inv3 w b1 b2 b3 m n A c A' c' B d B' d' E f E' f' w1 :=
  ⟨h.two.box1.cell 0, h.two.box1.cell 1, h.two.box1.cell 2, h.two.box1.cell 3, h.two.box1.cell 4, h.two.box1.cell 5, h.two.box1.cell 6, h.two.box1.cell 7, h.two.box1.cell 8, h.two.box1.cell 9, h.two.box1.cell 10, h.two.box1.cell 11, h.two.box1.cell 12, h.two.box1.cell 13, h.two.box2.cell 0, h.two.box2.cell 1, h.two.box2.cell 2, h.two.box2.cell 3, h.two.box2.cell 4, h.two.box2.cell 5, h.two.box2.cell 6, h.two.box2.cell 7, h.two.box2.cell 8, h.two.box2.cell 9, h.two.box2.cell 10, h.two.box2.cell 11, h.two.box2.cell 12, h.two.box2.cell 13, h.box3.cell 0, h.box3.cell 1, h.box3.cell 2, h.box3.cell 3, h.box3.cell 4, h.box3.cell 5, h.box3.cell 6, h.box3.cell 7, h.box3.cell 8, h.box3.cell 9, h.box3.cell 10, h.box3.cell 11, h.box3.cell 12, h.box3.cell 13, h⟩
theorem inv3_of (h : w1.cell? ⟨b1, 0, none⟩ = some (.int .i64 m.kind) ∧ w1.cell? ⟨b1, 1, none⟩ = some (.int .i64 m.fro) ∧ w1.cell? ⟨b1, 2, none⟩ = some (.int .i64 m.to) ∧ w1.cell? ⟨b1, 3, none⟩ = some (.int .i64 m.seq) ∧ w1.cell? ⟨b1, 4, none⟩ = some (.int .i64 m.time) ∧ w1.cell? ⟨b1, 5, none⟩ = some (.int .i64 m.aseq) ∧ w1.cell? ⟨b1, 6, none⟩ = some (.int .i64 m.aend) ∧ w1.cell? ⟨b1, 7, none⟩ = some (.slice A m.prof.length c) ∧ w1.cell? ⟨b1, 8, none⟩ = some (.slice A' m.links.length c') ∧ w1.cell? ⟨b1, 9, none⟩ = some (.int .i64 m.min) ∧ w1.cell? ⟨b1, 10, none⟩ = some (.int .i64 m.speed) ∧ w1.cell? ⟨b1, 11, none⟩ = some (.int .i64 m.mode) ∧ w1.cell? ⟨b1, 12, none⟩ = some (.int .i64 m.acc) ∧ w1.cell? ⟨b1, 13, none⟩ = some (.bool m.whole) ∧ w1.cell? ⟨b2, 0, none⟩ = some (.int .i64 n.kind) ∧ w1.cell? ⟨b2, 1, none⟩ = some (.int .i64 n.fro) ∧ w1.cell? ⟨b2, 2, none⟩ = some (.int .i64 n.to) ∧ w1.cell? ⟨b2, 3, none⟩ = some (.int .i64 n.seq) ∧ w1.cell? ⟨b2, 4, none⟩ = some (.int .i64 n.time) ∧ w1.cell? ⟨b2, 5, none⟩ = some (.int .i64 n.aseq) ∧ w1.cell? ⟨b2, 6, none⟩ = some (.int .i64 n.aend) ∧ w1.cell? ⟨b2, 7, none⟩ = some (.slice B n.prof.length d) ∧ w1.cell? ⟨b2, 8, none⟩ = some (.slice B' n.links.length d') ∧ w1.cell? ⟨b2, 9, none⟩ = some (.int .i64 n.min) ∧ w1.cell? ⟨b2, 10, none⟩ = some (.int .i64 n.speed) ∧ w1.cell? ⟨b2, 11, none⟩ = some (.int .i64 n.mode) ∧ w1.cell? ⟨b2, 12, none⟩ = some (.int .i64 n.acc) ∧ w1.cell? ⟨b2, 13, none⟩ = some (.bool n.whole) ∧ w1.cell? ⟨b3, 0, none⟩ = some (.int .i64 m.kind) ∧ w1.cell? ⟨b3, 1, none⟩ = some (.int .i64 m.fro) ∧ w1.cell? ⟨b3, 2, none⟩ = some (.int .i64 m.to) ∧ w1.cell? ⟨b3, 3, none⟩ = some (.int .i64 m.seq) ∧ w1.cell? ⟨b3, 4, none⟩ = some (.int .i64 m.time) ∧ w1.cell? ⟨b3, 5, none⟩ = some (.int .i64 m.aseq) ∧ w1.cell? ⟨b3, 6, none⟩ = some (.int .i64 m.aend) ∧ w1.cell? ⟨b3, 7, none⟩ = some (.slice E m.prof.length f) ∧ w1.cell? ⟨b3, 8, none⟩ = some (.slice E' m.links.length f') ∧ w1.cell? ⟨b3, 9, none⟩ = some (.int .i64 m.min) ∧ w1.cell? ⟨b3, 10, none⟩ = some (.int .i64 m.speed) ∧ w1.cell? ⟨b3, 11, none⟩ = some (.int .i64 m.mode) ∧ w1.cell? ⟨b3, 12, none⟩ = some (.int .i64 m.acc) ∧ w1.cell? ⟨b3, 13, none⟩ = some (.bool m.whole) ∧ Inv3 w b1 b2 b3 m n A c A' c' B d B' d' E f E' f' w1) : Inv3 w b1 b2 b3 m n A c A' c' B d B' d' E f E' f' w1 := by
  obtain ⟨_, _, _, _, _, _, _, _, _, _, _, _, _, _, _, _, _, _, _, _, _, _, _, _, _, _, _, _, _, _, _, _, _, _, _, _, _, _, _, _, _, _, h⟩ := h
  exact h
theorem held3m_step (h : w1.cell? ⟨b1, 0, none⟩ = some (.int .i64 m.kind) ∧ w1.cell? ⟨b1, 1, none⟩ = some (.int .i64 m.fro) ∧ w1.cell? ⟨b1, 2, none⟩ = some (.int .i64 m.to) ∧ w1.cell? ⟨b1, 3, none⟩ = some (.int .i64 m.seq) ∧ w1.cell? ⟨b1, 4, none⟩ = some (.int .i64 m.time) ∧ w1.cell? ⟨b1, 5, none⟩ = some (.int .i64 m.aseq) ∧ w1.cell? ⟨b1, 6, none⟩ = some (.int .i64 m.aend) ∧ w1.cell? ⟨b1, 7, none⟩ = some (.slice A m.prof.length c) ∧ w1.cell? ⟨b1, 8, none⟩ = some (.slice A' m.links.length c') ∧ w1.cell? ⟨b1, 9, none⟩ = some (.int .i64 m.min) ∧ w1.cell? ⟨b1, 10, none⟩ = some (.int .i64 m.speed) ∧ w1.cell? ⟨b1, 11, none⟩ = some (.int .i64 m.mode) ∧ w1.cell? ⟨b1, 12, none⟩ = some (.int .i64 m.acc) ∧ w1.cell? ⟨b1, 13, none⟩ = some (.bool m.whole) ∧ w1.cell? ⟨b2, 0, none⟩ = some (.int .i64 n.kind) ∧ w1.cell? ⟨b2, 1, none⟩ = some (.int .i64 n.fro) ∧ w1.cell? ⟨b2, 2, none⟩ = some (.int .i64 n.to) ∧ w1.cell? ⟨b2, 3, none⟩ = some (.int .i64 n.seq) ∧ w1.cell? ⟨b2, 4, none⟩ = some (.int .i64 n.time) ∧ w1.cell? ⟨b2, 5, none⟩ = some (.int .i64 n.aseq) ∧ w1.cell? ⟨b2, 6, none⟩ = some (.int .i64 n.aend) ∧ w1.cell? ⟨b2, 7, none⟩ = some (.slice B n.prof.length d) ∧ w1.cell? ⟨b2, 8, none⟩ = some (.slice B' n.links.length d') ∧ w1.cell? ⟨b2, 9, none⟩ = some (.int .i64 n.min) ∧ w1.cell? ⟨b2, 10, none⟩ = some (.int .i64 n.speed) ∧ w1.cell? ⟨b2, 11, none⟩ = some (.int .i64 n.mode) ∧ w1.cell? ⟨b2, 12, none⟩ = some (.int .i64 n.acc) ∧ w1.cell? ⟨b2, 13, none⟩ = some (.bool n.whole) ∧ w1.cell? ⟨b3, 0, none⟩ = some (.int .i64 m.kind) ∧ w1.cell? ⟨b3, 1, none⟩ = some (.int .i64 m.fro) ∧ w1.cell? ⟨b3, 2, none⟩ = some (.int .i64 m.to) ∧ w1.cell? ⟨b3, 3, none⟩ = some (.int .i64 m.seq) ∧ w1.cell? ⟨b3, 4, none⟩ = some (.int .i64 m.time) ∧ w1.cell? ⟨b3, 5, none⟩ = some (.int .i64 m.aseq) ∧ w1.cell? ⟨b3, 6, none⟩ = some (.int .i64 m.aend) ∧ w1.cell? ⟨b3, 7, none⟩ = some (.slice E m.prof.length f) ∧ w1.cell? ⟨b3, 8, none⟩ = some (.slice E' m.links.length f') ∧ w1.cell? ⟨b3, 9, none⟩ = some (.int .i64 m.min) ∧ w1.cell? ⟨b3, 10, none⟩ = some (.int .i64 m.speed) ∧ w1.cell? ⟨b3, 11, none⟩ = some (.int .i64 m.mode) ∧ w1.cell? ⟨b3, 12, none⟩ = some (.int .i64 m.acc) ∧ w1.cell? ⟨b3, 13, none⟩ = some (.bool m.whole) ∧ Inv3 w b1 b2 b3 m n A c A' c' B d B' d' E f E' f' w1) (hb : Below w1.heap.size w1 w2) : w2.cell? ⟨b1, 0, none⟩ = some (.int .i64 m.kind) ∧ w2.cell? ⟨b1, 1, none⟩ = some (.int .i64 m.fro) ∧ w2.cell? ⟨b1, 2, none⟩ = some (.int .i64 m.to) ∧ w2.cell? ⟨b1, 3, none⟩ = some (.int .i64 m.seq) ∧ w2.cell? ⟨b1, 4, none⟩ = some (.int .i64 m.time) ∧ w2.cell? ⟨b1, 5, none⟩ = some (.int .i64 m.aseq) ∧ w2.cell? ⟨b1, 6, none⟩ = some (.int .i64 m.aend) ∧ w2.cell? ⟨b1, 7, none⟩ = some (.slice A m.prof.length c) ∧ w2.cell? ⟨b1, 8, none⟩ = some (.slice A' m.links.length c') ∧ w2.cell? ⟨b1, 9, none⟩ = some (.int .i64 m.min) ∧ w2.cell? ⟨b1, 10, none⟩ = some (.int .i64 m.speed) ∧ w2.cell? ⟨b1, 11, none⟩ = some (.int .i64 m.mode) ∧ w2.cell? ⟨b1, 12, none⟩ = some (.int .i64 m.acc) ∧ w2.cell? ⟨b1, 13, none⟩ = some (.bool m.whole) ∧ w2.cell? ⟨b2, 0, none⟩ = some (.int .i64 n.kind) ∧ w2.cell? ⟨b2, 1, none⟩ = some (.int .i64 n.fro) ∧ w2.cell? ⟨b2, 2, none⟩ = some (.int .i64 n.to) ∧ w2.cell? ⟨b2, 3, none⟩ = some (.int .i64 n.seq) ∧ w2.cell? ⟨b2, 4, none⟩ = some (.int .i64 n.time) ∧ w2.cell? ⟨b2, 5, none⟩ = some (.int .i64 n.aseq) ∧ w2.cell? ⟨b2, 6, none⟩ = some (.int .i64 n.aend) ∧ w2.cell? ⟨b2, 7, none⟩ = some (.slice B n.prof.length d) ∧ w2.cell? ⟨b2, 8, none⟩ = some (.slice B' n.links.length d') ∧ w2.cell? ⟨b2, 9, none⟩ = some (.int .i64 n.min) ∧ w2.cell? ⟨b2, 10, none⟩ = some (.int .i64 n.speed) ∧ w2.cell? ⟨b2, 11, none⟩ = some (.int .i64 n.mode) ∧ w2.cell? ⟨b2, 12, none⟩ = some (.int .i64 n.acc) ∧ w2.cell? ⟨b2, 13, none⟩ = some (.bool n.whole) ∧ w2.cell? ⟨b3, 0, none⟩ = some (.int .i64 m.kind) ∧ w2.cell? ⟨b3, 1, none⟩ = some (.int .i64 m.fro) ∧ w2.cell? ⟨b3, 2, none⟩ = some (.int .i64 m.to) ∧ w2.cell? ⟨b3, 3, none⟩ = some (.int .i64 m.seq) ∧ w2.cell? ⟨b3, 4, none⟩ = some (.int .i64 m.time) ∧ w2.cell? ⟨b3, 5, none⟩ = some (.int .i64 m.aseq) ∧ w2.cell? ⟨b3, 6, none⟩ = some (.int .i64 m.aend) ∧ w2.cell? ⟨b3, 7, none⟩ = some (.slice E m.prof.length f) ∧ w2.cell? ⟨b3, 8, none⟩ = some (.slice E' m.links.length f') ∧ w2.cell? ⟨b3, 9, none⟩ = some (.int .i64 m.min) ∧ w2.cell? ⟨b3, 10, none⟩ = some (.int .i64 m.speed) ∧ w2.cell? ⟨b3, 11, none⟩ = some (.int .i64 m.mode) ∧ w2.cell? ⟨b3, 12, none⟩ = some (.int .i64 m.acc) ∧ w2.cell? ⟨b3, 13, none⟩ = some (.bool m.whole) ∧ Inv3 w b1 b2 b3 m n A c A' c' B d B' d' E f E' f' w2 := ((inv3_of h).step hb).cells
theorem held3m_drew (h : w1.cell? ⟨b1, 0, none⟩ = some (.int .i64 m.kind) ∧ w1.cell? ⟨b1, 1, none⟩ = some (.int .i64 m.fro) ∧ w1.cell? ⟨b1, 2, none⟩ = some (.int .i64 m.to) ∧ w1.cell? ⟨b1, 3, none⟩ = some (.int .i64 m.seq) ∧ w1.cell? ⟨b1, 4, none⟩ = some (.int .i64 m.time) ∧ w1.cell? ⟨b1, 5, none⟩ = some (.int .i64 m.aseq) ∧ w1.cell? ⟨b1, 6, none⟩ = some (.int .i64 m.aend) ∧ w1.cell? ⟨b1, 7, none⟩ = some (.slice A m.prof.length c) ∧ w1.cell? ⟨b1, 8, none⟩ = some (.slice A' m.links.length c') ∧ w1.cell? ⟨b1, 9, none⟩ = some (.int .i64 m.min) ∧ w1.cell? ⟨b1, 10, none⟩ = some (.int .i64 m.speed) ∧ w1.cell? ⟨b1, 11, none⟩ = some (.int .i64 m.mode) ∧ w1.cell? ⟨b1, 12, none⟩ = some (.int .i64 m.acc) ∧ w1.cell? ⟨b1, 13, none⟩ = some (.bool m.whole) ∧ w1.cell? ⟨b2, 0, none⟩ = some (.int .i64 n.kind) ∧ w1.cell? ⟨b2, 1, none⟩ = some (.int .i64 n.fro) ∧ w1.cell? ⟨b2, 2, none⟩ = some (.int .i64 n.to) ∧ w1.cell? ⟨b2, 3, none⟩ = some (.int .i64 n.seq) ∧ w1.cell? ⟨b2, 4, none⟩ = some (.int .i64 n.time) ∧ w1.cell? ⟨b2, 5, none⟩ = some (.int .i64 n.aseq) ∧ w1.cell? ⟨b2, 6, none⟩ = some (.int .i64 n.aend) ∧ w1.cell? ⟨b2, 7, none⟩ = some (.slice B n.prof.length d) ∧ w1.cell? ⟨b2, 8, none⟩ = some (.slice B' n.links.length d') ∧ w1.cell? ⟨b2, 9, none⟩ = some (.int .i64 n.min) ∧ w1.cell? ⟨b2, 10, none⟩ = some (.int .i64 n.speed) ∧ w1.cell? ⟨b2, 11, none⟩ = some (.int .i64 n.mode) ∧ w1.cell? ⟨b2, 12, none⟩ = some (.int .i64 n.acc) ∧ w1.cell? ⟨b2, 13, none⟩ = some (.bool n.whole) ∧ w1.cell? ⟨b3, 0, none⟩ = some (.int .i64 m.kind) ∧ w1.cell? ⟨b3, 1, none⟩ = some (.int .i64 m.fro) ∧ w1.cell? ⟨b3, 2, none⟩ = some (.int .i64 m.to) ∧ w1.cell? ⟨b3, 3, none⟩ = some (.int .i64 m.seq) ∧ w1.cell? ⟨b3, 4, none⟩ = some (.int .i64 m.time) ∧ w1.cell? ⟨b3, 5, none⟩ = some (.int .i64 m.aseq) ∧ w1.cell? ⟨b3, 6, none⟩ = some (.int .i64 m.aend) ∧ w1.cell? ⟨b3, 7, none⟩ = some (.slice E m.prof.length f) ∧ w1.cell? ⟨b3, 8, none⟩ = some (.slice E' m.links.length f') ∧ w1.cell? ⟨b3, 9, none⟩ = some (.int .i64 m.min) ∧ w1.cell? ⟨b3, 10, none⟩ = some (.int .i64 m.speed) ∧ w1.cell? ⟨b3, 11, none⟩ = some (.int .i64 m.mode) ∧ w1.cell? ⟨b3, 12, none⟩ = some (.int .i64 m.acc) ∧ w1.cell? ⟨b3, 13, none⟩ = some (.bool m.whole) ∧ Inv3 w b1 b2 b3 m n A c A' c' B d B' d' E f E' f' w1) : w1.drew.cell? ⟨b1, 0, none⟩ = some (.int .i64 m.kind) ∧ w1.drew.cell? ⟨b1, 1, none⟩ = some (.int .i64 m.fro) ∧ w1.drew.cell? ⟨b1, 2, none⟩ = some (.int .i64 m.to) ∧ w1.drew.cell? ⟨b1, 3, none⟩ = some (.int .i64 m.seq) ∧ w1.drew.cell? ⟨b1, 4, none⟩ = some (.int .i64 m.time) ∧ w1.drew.cell? ⟨b1, 5, none⟩ = some (.int .i64 m.aseq) ∧ w1.drew.cell? ⟨b1, 6, none⟩ = some (.int .i64 m.aend) ∧ w1.drew.cell? ⟨b1, 7, none⟩ = some (.slice A m.prof.length c) ∧ w1.drew.cell? ⟨b1, 8, none⟩ = some (.slice A' m.links.length c') ∧ w1.drew.cell? ⟨b1, 9, none⟩ = some (.int .i64 m.min) ∧ w1.drew.cell? ⟨b1, 10, none⟩ = some (.int .i64 m.speed) ∧ w1.drew.cell? ⟨b1, 11, none⟩ = some (.int .i64 m.mode) ∧ w1.drew.cell? ⟨b1, 12, none⟩ = some (.int .i64 m.acc) ∧ w1.drew.cell? ⟨b1, 13, none⟩ = some (.bool m.whole) ∧ w1.drew.cell? ⟨b2, 0, none⟩ = some (.int .i64 n.kind) ∧ w1.drew.cell? ⟨b2, 1, none⟩ = some (.int .i64 n.fro) ∧ w1.drew.cell? ⟨b2, 2, none⟩ = some (.int .i64 n.to) ∧ w1.drew.cell? ⟨b2, 3, none⟩ = some (.int .i64 n.seq) ∧ w1.drew.cell? ⟨b2, 4, none⟩ = some (.int .i64 n.time) ∧ w1.drew.cell? ⟨b2, 5, none⟩ = some (.int .i64 n.aseq) ∧ w1.drew.cell? ⟨b2, 6, none⟩ = some (.int .i64 n.aend) ∧ w1.drew.cell? ⟨b2, 7, none⟩ = some (.slice B n.prof.length d) ∧ w1.drew.cell? ⟨b2, 8, none⟩ = some (.slice B' n.links.length d') ∧ w1.drew.cell? ⟨b2, 9, none⟩ = some (.int .i64 n.min) ∧ w1.drew.cell? ⟨b2, 10, none⟩ = some (.int .i64 n.speed) ∧ w1.drew.cell? ⟨b2, 11, none⟩ = some (.int .i64 n.mode) ∧ w1.drew.cell? ⟨b2, 12, none⟩ = some (.int .i64 n.acc) ∧ w1.drew.cell? ⟨b2, 13, none⟩ = some (.bool n.whole) ∧ w1.drew.cell? ⟨b3, 0, none⟩ = some (.int .i64 m.kind) ∧ w1.drew.cell? ⟨b3, 1, none⟩ = some (.int .i64 m.fro) ∧ w1.drew.cell? ⟨b3, 2, none⟩ = some (.int .i64 m.to) ∧ w1.drew.cell? ⟨b3, 3, none⟩ = some (.int .i64 m.seq) ∧ w1.drew.cell? ⟨b3, 4, none⟩ = some (.int .i64 m.time) ∧ w1.drew.cell? ⟨b3, 5, none⟩ = some (.int .i64 m.aseq) ∧ w1.drew.cell? ⟨b3, 6, none⟩ = some (.int .i64 m.aend) ∧ w1.drew.cell? ⟨b3, 7, none⟩ = some (.slice E m.prof.length f) ∧ w1.drew.cell? ⟨b3, 8, none⟩ = some (.slice E' m.links.length f') ∧ w1.drew.cell? ⟨b3, 9, none⟩ = some (.int .i64 m.min) ∧ w1.drew.cell? ⟨b3, 10, none⟩ = some (.int .i64 m.speed) ∧ w1.drew.cell? ⟨b3, 11, none⟩ = some (.int .i64 m.mode) ∧ w1.drew.cell? ⟨b3, 12, none⟩ = some (.int .i64 m.acc) ∧ w1.drew.cell? ⟨b3, 13, none⟩ = some (.bool m.whole) ∧ Inv3 w b1 b2 b3 m n A c A' c' B d B' d' E f E' f' w1.drew := ((inv3_of h).step (Below.refl _ _).drew).cells
end
theorem sameM_ne {m n : Msg} (h : ¬ m = n) : sameM m n = false := by
  cases hs : sameM m n with
  | false => rfl
  | true => exact absurd (sameM_iff.1 hs) h
set_option maxRecDepth 100000 in
set_option maxHeartbeats 4000000 in
theorem messageReturns_no0 (m n : Msg) (A : Option Addr) (c : Nat) (A' : Option Addr) (c' : Nat) (B : Option Addr) (d : Nat) (B' : Option Addr) (d' : Nat) (w : World) (om : m.Ok) (hm : RdS cSeg w w.heap.size A m.prof) (hm' : RdS cLnk w w.heap.size A' m.links) (on : n.Ok) (hn : RdS cSeg w w.heap.size B n.prof) (hn' : RdS cLnk w w.heap.size B' n.links) (h0 : fewB m = false) :
    Calls Try.prog 17 #[.agg #[.int .i64 m.kind, .int .i64 m.fro, .int .i64 m.to, .int .i64 m.seq, .int .i64 m.time, .int .i64 m.aseq, .int .i64 m.aend, .slice A m.prof.length c, .slice A' m.links.length c', .int .i64 m.min, .int .i64 m.speed, .int .i64 m.mode, .int .i64 m.acc, .bool m.whole], .agg #[.int .i64 n.kind, .int .i64 n.fro, .int .i64 n.to, .int .i64 n.seq, .int .i64 n.time, .int .i64 n.aseq, .int .i64 n.aend, .slice B n.prof.length d, .slice B' n.links.length d', .int .i64 n.min, .int .i64 n.speed, .int .i64 n.mode, .int .i64 n.acc, .bool n.whole]] w fun e w' => e = .returned (.bool true) ∧ Below w.heap.size w w' := by
  have e63 : maxLen ≤ 9223372036854775807 := by decide
  have lm : m.prof.length ≤ 9223372036854775807 := Nat.le_trans om.prof e63
  have lm' : m.links.length ≤ 9223372036854775807 := Nat.le_trans om.links e63
  have ln : n.prof.length ≤ 9223372036854775807 := Nat.le_trans on.prof e63
  have ln' : n.links.length ≤ 9223372036854775807 := Nat.le_trans on.links e63
  clear e63
  have hI := Inv2.start (c := c) (c' := c') (d := d) (d' := d') hm hm' hn hn'
  clear hm hm' hn hn'
  have H0 := Lib.hid h0
  clear h0
  go_enter Try.func17, Try.ntmps17
  go_wp2_with fail
  refine (few_any m A c A' c' _ lm lm').mono ?_
  rw [H0.out]
  rintro e w1 ⟨rfl, hb⟩
  have hI1 := hI.step hb
  clear hI hb
  go_wp2_with fail
  refine (alive37 _).mono ?_
  rintro e w9 ⟨rfl, hb⟩
  go_wp2_with fail
  go_ret
  exact ⟨rfl, (hI1.step hb).below⟩
set_option maxRecDepth 100000 in
set_option maxHeartbeats 4000000 in
theorem messageReturns_no1 (m n : Msg) (A : Option Addr) (c : Nat) (A' : Option Addr) (c' : Nat) (B : Option Addr) (d : Nat) (B' : Option Addr) (d' : Nat) (w : World) (om : m.Ok) (hm : RdS cSeg w w.heap.size A m.prof) (hm' : RdS cLnk w w.heap.size A' m.links) (on : n.Ok) (hn : RdS cSeg w w.heap.size B n.prof) (hn' : RdS cLnk w w.heap.size B' n.links) (h0 : fewB m = true) (h1 : fewB n = false) :
    Calls Try.prog 17 #[.agg #[.int .i64 m.kind, .int .i64 m.fro, .int .i64 m.to, .int .i64 m.seq, .int .i64 m.time, .int .i64 m.aseq, .int .i64 m.aend, .slice A m.prof.length c, .slice A' m.links.length c', .int .i64 m.min, .int .i64 m.speed, .int .i64 m.mode, .int .i64 m.acc, .bool m.whole], .agg #[.int .i64 n.kind, .int .i64 n.fro, .int .i64 n.to, .int .i64 n.seq, .int .i64 n.time, .int .i64 n.aseq, .int .i64 n.aend, .slice B n.prof.length d, .slice B' n.links.length d', .int .i64 n.min, .int .i64 n.speed, .int .i64 n.mode, .int .i64 n.acc, .bool n.whole]] w fun e w' => e = .returned (.bool true) ∧ Below w.heap.size w w' := by
  have e63 : maxLen ≤ 9223372036854775807 := by decide
  have lm : m.prof.length ≤ 9223372036854775807 := Nat.le_trans om.prof e63
  have lm' : m.links.length ≤ 9223372036854775807 := Nat.le_trans om.links e63
  have ln : n.prof.length ≤ 9223372036854775807 := Nat.le_trans on.prof e63
  have ln' : n.links.length ≤ 9223372036854775807 := Nat.le_trans on.links e63
  clear e63
  have hI := Inv2.start (c := c) (c' := c') (d := d) (d' := d') hm hm' hn hn'
  clear hm hm' hn hn'
  have H0 := Lib.hid h0
  clear h0
  have H1 := Lib.hid h1
  clear h1
  go_enter Try.func17, Try.ntmps17
  go_wp2_with fail
  refine (few_any m A c A' c' _ lm lm').mono ?_
  rw [H0.out]
  rintro e w1 ⟨rfl, hb⟩
  have hI1 := hI.step hb
  clear hI hb
  have y0 := hI1.box2.cell 0
  have y1 := hI1.box2.cell 1
  have y2 := hI1.box2.cell 2
  have y3 := hI1.box2.cell 3
  have y4 := hI1.box2.cell 4
  have y5 := hI1.box2.cell 5
  have y6 := hI1.box2.cell 6
  have y7 := hI1.box2.cell 7
  have y8 := hI1.box2.cell 8
  have y9 := hI1.box2.cell 9
  have y10 := hI1.box2.cell 10
  have y11 := hI1.box2.cell 11
  have y12 := hI1.box2.cell 12
  have y13 := hI1.box2.cell 13
  simp only [List.getElem?_toArray, List.getElem?_cons_succ, List.getElem?_cons_zero] at y0 y1 y2 y3 y4 y5 y6 y7 y8 y9 y10 y11 y12 y13
  go_wp2_with fail
  refine (few_any n B d B' d' _ ln ln').mono ?_
  rw [H1.out]
  rintro e w2 ⟨rfl, hb⟩
  have hI2 := hI1.step hb
  clear y0 y1 y2 y3 y4 y5 y6 y7 y8 y9 y10 y11 y12 y13
  clear hI1 hb
  go_wp2_with fail
  refine (alive37 _).mono ?_
  rintro e w9 ⟨rfl, hb⟩
  go_wp2_with fail
  go_ret
  exact ⟨rfl, (hI2.step hb).below⟩
set_option maxRecDepth 100000 in
set_option maxHeartbeats 4000000 in
theorem messageReturns_no2 (m n : Msg) (A : Option Addr) (c : Nat) (A' : Option Addr) (c' : Nat) (B : Option Addr) (d : Nat) (B' : Option Addr) (d' : Nat) (w : World) (om : m.Ok) (hm : RdS cSeg w w.heap.size A m.prof) (hm' : RdS cLnk w w.heap.size A' m.links) (on : n.Ok) (hn : RdS cSeg w w.heap.size B n.prof) (hn' : RdS cLnk w w.heap.size B' n.links) (h0 : fewB m = true) (h1 : fewB n = true) (h2 : validB m = false) :
    Calls Try.prog 17 #[.agg #[.int .i64 m.kind, .int .i64 m.fro, .int .i64 m.to, .int .i64 m.seq, .int .i64 m.time, .int .i64 m.aseq, .int .i64 m.aend, .slice A m.prof.length c, .slice A' m.links.length c', .int .i64 m.min, .int .i64 m.speed, .int .i64 m.mode, .int .i64 m.acc, .bool m.whole], .agg #[.int .i64 n.kind, .int .i64 n.fro, .int .i64 n.to, .int .i64 n.seq, .int .i64 n.time, .int .i64 n.aseq, .int .i64 n.aend, .slice B n.prof.length d, .slice B' n.links.length d', .int .i64 n.min, .int .i64 n.speed, .int .i64 n.mode, .int .i64 n.acc, .bool n.whole]] w fun e w' => e = .returned (.bool true) ∧ Below w.heap.size w w' := by
  have e63 : maxLen ≤ 9223372036854775807 := by decide
  have lm : m.prof.length ≤ 9223372036854775807 := Nat.le_trans om.prof e63
  have lm' : m.links.length ≤ 9223372036854775807 := Nat.le_trans om.links e63
  have ln : n.prof.length ≤ 9223372036854775807 := Nat.le_trans on.prof e63
  have ln' : n.links.length ≤ 9223372036854775807 := Nat.le_trans on.links e63
  clear e63
  have hI := Inv2.start (c := c) (c' := c') (d := d) (d' := d') hm hm' hn hn'
  clear hm hm' hn hn'
  have H0 := Lib.hid h0
  clear h0
  have H1 := Lib.hid h1
  clear h1
  have H2 := Lib.hid h2
  clear h2
  go_enter Try.func17, Try.ntmps17
  go_wp2_with fail
  refine (few_any m A c A' c' _ lm lm').mono ?_
  rw [H0.out]
  rintro e w1 ⟨rfl, hb⟩
  have hI1 := hI.step hb
  clear hI hb
  have y0 := hI1.box2.cell 0
  have y1 := hI1.box2.cell 1
  have y2 := hI1.box2.cell 2
  have y3 := hI1.box2.cell 3
  have y4 := hI1.box2.cell 4
  have y5 := hI1.box2.cell 5
  have y6 := hI1.box2.cell 6
  have y7 := hI1.box2.cell 7
  have y8 := hI1.box2.cell 8
  have y9 := hI1.box2.cell 9
  have y10 := hI1.box2.cell 10
  have y11 := hI1.box2.cell 11
  have y12 := hI1.box2.cell 12
  have y13 := hI1.box2.cell 13
  simp only [List.getElem?_toArray, List.getElem?_cons_succ, List.getElem?_cons_zero] at y0 y1 y2 y3 y4 y5 y6 y7 y8 y9 y10 y11 y12 y13
  go_wp2_with fail
  refine (few_any n B d B' d' _ ln ln').mono ?_
  rw [H1.out]
  rintro e w2 ⟨rfl, hb⟩
  have hI2 := hI1.step hb
  clear y0 y1 y2 y3 y4 y5 y6 y7 y8 y9 y10 y11 y12 y13
  clear hI1 hb
  have y0 := hI2.box1.cell 0
  have y1 := hI2.box1.cell 1
  have y2 := hI2.box1.cell 2
  have y3 := hI2.box1.cell 3
  have y4 := hI2.box1.cell 4
  have y5 := hI2.box1.cell 5
  have y6 := hI2.box1.cell 6
  have y7 := hI2.box1.cell 7
  have y8 := hI2.box1.cell 8
  have y9 := hI2.box1.cell 9
  have y10 := hI2.box1.cell 10
  have y11 := hI2.box1.cell 11
  have y12 := hI2.box1.cell 12
  have y13 := hI2.box1.cell 13
  simp only [List.getElem?_toArray, List.getElem?_cons_succ, List.getElem?_cons_zero] at y0 y1 y2 y3 y4 y5 y6 y7 y8 y9 y10 y11 y12 y13
  go_wp2_with fail
  refine (valid_any m A c A' c' _ lm lm' hI2.m1 hI2.m2).mono ?_
  rw [H2.out]
  rintro e w3 ⟨rfl, hb⟩
  have hI3 := hI2.step hb
  clear y0 y1 y2 y3 y4 y5 y6 y7 y8 y9 y10 y11 y12 y13
  clear hI2 hb
  go_wp2_with fail
  refine (alive37 _).mono ?_
  rintro e w9 ⟨rfl, hb⟩
  go_wp2_with fail
  go_ret
  exact ⟨rfl, (hI3.step hb).below⟩
set_option maxRecDepth 100000 in
set_option maxHeartbeats 4000000 in
theorem messageReturns_no3 (m n : Msg) (A : Option Addr) (c : Nat) (A' : Option Addr) (c' : Nat) (B : Option Addr) (d : Nat) (B' : Option Addr) (d' : Nat) (w : World) (om : m.Ok) (hm : RdS cSeg w w.heap.size A m.prof) (hm' : RdS cLnk w w.heap.size A' m.links) (on : n.Ok) (hn : RdS cSeg w w.heap.size B n.prof) (hn' : RdS cLnk w w.heap.size B' n.links) (h0 : fewB m = true) (h1 : fewB n = true) (h2 : validB m = true) (h3 : validB n = false) :
    Calls Try.prog 17 #[.agg #[.int .i64 m.kind, .int .i64 m.fro, .int .i64 m.to, .int .i64 m.seq, .int .i64 m.time, .int .i64 m.aseq, .int .i64 m.aend, .slice A m.prof.length c, .slice A' m.links.length c', .int .i64 m.min, .int .i64 m.speed, .int .i64 m.mode, .int .i64 m.acc, .bool m.whole], .agg #[.int .i64 n.kind, .int .i64 n.fro, .int .i64 n.to, .int .i64 n.seq, .int .i64 n.time, .int .i64 n.aseq, .int .i64 n.aend, .slice B n.prof.length d, .slice B' n.links.length d', .int .i64 n.min, .int .i64 n.speed, .int .i64 n.mode, .int .i64 n.acc, .bool n.whole]] w fun e w' => e = .returned (.bool true) ∧ Below w.heap.size w w' := by
  have e63 : maxLen ≤ 9223372036854775807 := by decide
  have lm : m.prof.length ≤ 9223372036854775807 := Nat.le_trans om.prof e63
  have lm' : m.links.length ≤ 9223372036854775807 := Nat.le_trans om.links e63
  have ln : n.prof.length ≤ 9223372036854775807 := Nat.le_trans on.prof e63
  have ln' : n.links.length ≤ 9223372036854775807 := Nat.le_trans on.links e63
  clear e63
  have hI := Inv2.start (c := c) (c' := c') (d := d) (d' := d') hm hm' hn hn'
  clear hm hm' hn hn'
  have H0 := Lib.hid h0
  clear h0
  have H1 := Lib.hid h1
  clear h1
  have H2 := Lib.hid h2
  clear h2
  have H3 := Lib.hid h3
  clear h3
  go_enter Try.func17, Try.ntmps17
  go_wp2_with fail
  refine (few_any m A c A' c' _ lm lm').mono ?_
  rw [H0.out]
  rintro e w1 ⟨rfl, hb⟩
  have hI1 := hI.step hb
  clear hI hb
  have y0 := hI1.box2.cell 0
  have y1 := hI1.box2.cell 1
  have y2 := hI1.box2.cell 2
  have y3 := hI1.box2.cell 3
  have y4 := hI1.box2.cell 4
  have y5 := hI1.box2.cell 5
  have y6 := hI1.box2.cell 6
  have y7 := hI1.box2.cell 7
  have y8 := hI1.box2.cell 8
  have y9 := hI1.box2.cell 9
  have y10 := hI1.box2.cell 10
  have y11 := hI1.box2.cell 11
  have y12 := hI1.box2.cell 12
  have y13 := hI1.box2.cell 13
  simp only [List.getElem?_toArray, List.getElem?_cons_succ, List.getElem?_cons_zero] at y0 y1 y2 y3 y4 y5 y6 y7 y8 y9 y10 y11 y12 y13
  go_wp2_with fail
  refine (few_any n B d B' d' _ ln ln').mono ?_
  rw [H1.out]
  rintro e w2 ⟨rfl, hb⟩
  have hI2 := hI1.step hb
  clear y0 y1 y2 y3 y4 y5 y6 y7 y8 y9 y10 y11 y12 y13
  clear hI1 hb
  have y0 := hI2.box1.cell 0
  have y1 := hI2.box1.cell 1
  have y2 := hI2.box1.cell 2
  have y3 := hI2.box1.cell 3
  have y4 := hI2.box1.cell 4
  have y5 := hI2.box1.cell 5
  have y6 := hI2.box1.cell 6
  have y7 := hI2.box1.cell 7
  have y8 := hI2.box1.cell 8
  have y9 := hI2.box1.cell 9
  have y10 := hI2.box1.cell 10
  have y11 := hI2.box1.cell 11
  have y12 := hI2.box1.cell 12
  have y13 := hI2.box1.cell 13
  simp only [List.getElem?_toArray, List.getElem?_cons_succ, List.getElem?_cons_zero] at y0 y1 y2 y3 y4 y5 y6 y7 y8 y9 y10 y11 y12 y13
  go_wp2_with fail
  refine (valid_any m A c A' c' _ lm lm' hI2.m1 hI2.m2).mono ?_
  rw [H2.out]
  rintro e w3 ⟨rfl, hb⟩
  have hI3 := hI2.step hb
  clear y0 y1 y2 y3 y4 y5 y6 y7 y8 y9 y10 y11 y12 y13
  clear hI2 hb
  have y0 := hI3.box2.cell 0
  have y1 := hI3.box2.cell 1
  have y2 := hI3.box2.cell 2
  have y3 := hI3.box2.cell 3
  have y4 := hI3.box2.cell 4
  have y5 := hI3.box2.cell 5
  have y6 := hI3.box2.cell 6
  have y7 := hI3.box2.cell 7
  have y8 := hI3.box2.cell 8
  have y9 := hI3.box2.cell 9
  have y10 := hI3.box2.cell 10
  have y11 := hI3.box2.cell 11
  have y12 := hI3.box2.cell 12
  have y13 := hI3.box2.cell 13
  simp only [List.getElem?_toArray, List.getElem?_cons_succ, List.getElem?_cons_zero] at y0 y1 y2 y3 y4 y5 y6 y7 y8 y9 y10 y11 y12 y13
  go_wp2_with fail
  refine (valid_any n B d B' d' _ ln ln' hI3.n1 hI3.n2).mono ?_
  rw [H3.out]
  rintro e w4 ⟨rfl, hb⟩
  have hI4 := hI3.step hb
  clear y0 y1 y2 y3 y4 y5 y6 y7 y8 y9 y10 y11 y12 y13
  clear hI3 hb
  go_wp2_with fail
  refine (alive37 _).mono ?_
  rintro e w9 ⟨rfl, hb⟩
  go_wp2_with fail
  go_ret
  exact ⟨rfl, (hI4.step hb).below⟩
set_option maxRecDepth 100000 in
set_option maxHeartbeats 8000000 in
theorem messageReturns_same (m n : Msg) (A : Option Addr) (c : Nat) (A' : Option Addr) (c' : Nat) (B : Option Addr) (d : Nat) (B' : Option Addr) (d' : Nat) (w : World) (om : m.Ok) (hm : RdS cSeg w w.heap.size A m.prof) (hm' : RdS cLnk w w.heap.size A' m.links) (on : n.Ok) (hn : RdS cSeg w w.heap.size B n.prof) (hn' : RdS cLnk w w.heap.size B' n.links) (h0 : fewB m = true) (h1 : fewB n = true) (h2 : validB m = true) (h3 : validB n = true) (hmn : m = n) :
    Calls Try.prog 17 #[.agg #[.int .i64 m.kind, .int .i64 m.fro, .int .i64 m.to, .int .i64 m.seq, .int .i64 m.time, .int .i64 m.aseq, .int .i64 m.aend, .slice A m.prof.length c, .slice A' m.links.length c', .int .i64 m.min, .int .i64 m.speed, .int .i64 m.mode, .int .i64 m.acc, .bool m.whole], .agg #[.int .i64 n.kind, .int .i64 n.fro, .int .i64 n.to, .int .i64 n.seq, .int .i64 n.time, .int .i64 n.aseq, .int .i64 n.aend, .slice B n.prof.length d, .slice B' n.links.length d', .int .i64 n.min, .int .i64 n.speed, .int .i64 n.mode, .int .i64 n.acc, .bool n.whole]] w fun e w' => e = .returned (.bool true) ∧ Below w.heap.size w w' := by
  have op := seg_oks hm
  have ol := lnk_oks hm'
  have op' := seg_oks hn
  have ol' := lnk_oks hn'
  have HL := Lib.hid (encM_len h2 om op ol)
  have HD := Lib.hid (dec_enc h2 om op ol)
  have HS := Lib.hid (sameM_iff.2 hmn)
  have HE := Lib.hid (show encM n = encM m by rw [hmn])
  clear op ol op' ol' hmn
  have e63 : maxLen ≤ 9223372036854775807 := by decide
  have lm : m.prof.length ≤ 9223372036854775807 := Nat.le_trans om.prof e63
  have lm' : m.links.length ≤ 9223372036854775807 := Nat.le_trans om.links e63
  have ln : n.prof.length ≤ 9223372036854775807 := Nat.le_trans on.prof e63
  have ln' : n.links.length ≤ 9223372036854775807 := Nat.le_trans on.links e63
  clear e63
  have hI := Inv2.start (c := c) (c' := c') (d := d) (d' := d') hm hm' hn hn'
  clear hm hm' hn hn'
  have H0 := Lib.hid h0
  clear h0
  have H1 := Lib.hid h1
  clear h1
  have H2 := Lib.hid h2
  clear h2
  have H3 := Lib.hid h3
  clear h3
  go_enter Try.func17, Try.ntmps17
  go_wp2_with fail
  refine (few_any m A c A' c' _ lm lm').mono ?_
  rw [H0.out]
  rintro e w1 ⟨rfl, hb⟩
  have hI1 := hI.step hb
  clear hI hb
  have y0 := hI1.box2.cell 0
  have y1 := hI1.box2.cell 1
  have y2 := hI1.box2.cell 2
  have y3 := hI1.box2.cell 3
  have y4 := hI1.box2.cell 4
  have y5 := hI1.box2.cell 5
  have y6 := hI1.box2.cell 6
  have y7 := hI1.box2.cell 7
  have y8 := hI1.box2.cell 8
  have y9 := hI1.box2.cell 9
  have y10 := hI1.box2.cell 10
  have y11 := hI1.box2.cell 11
  have y12 := hI1.box2.cell 12
  have y13 := hI1.box2.cell 13
  simp only [List.getElem?_toArray, List.getElem?_cons_succ, List.getElem?_cons_zero] at y0 y1 y2 y3 y4 y5 y6 y7 y8 y9 y10 y11 y12 y13
  go_wp2_with fail
  refine (few_any n B d B' d' _ ln ln').mono ?_
  rw [H1.out]
  rintro e w2 ⟨rfl, hb⟩
  have hI2 := hI1.step hb
  clear y0 y1 y2 y3 y4 y5 y6 y7 y8 y9 y10 y11 y12 y13
  clear hI1 hb
  have y0 := hI2.box1.cell 0
  have y1 := hI2.box1.cell 1
  have y2 := hI2.box1.cell 2
  have y3 := hI2.box1.cell 3
  have y4 := hI2.box1.cell 4
  have y5 := hI2.box1.cell 5
  have y6 := hI2.box1.cell 6
  have y7 := hI2.box1.cell 7
  have y8 := hI2.box1.cell 8
  have y9 := hI2.box1.cell 9
  have y10 := hI2.box1.cell 10
  have y11 := hI2.box1.cell 11
  have y12 := hI2.box1.cell 12
  have y13 := hI2.box1.cell 13
  simp only [List.getElem?_toArray, List.getElem?_cons_succ, List.getElem?_cons_zero] at y0 y1 y2 y3 y4 y5 y6 y7 y8 y9 y10 y11 y12 y13
  go_wp2_with fail
  refine (valid_any m A c A' c' _ lm lm' hI2.m1 hI2.m2).mono ?_
  rw [H2.out]
  rintro e w3 ⟨rfl, hb⟩
  have hI3 := hI2.step hb
  clear y0 y1 y2 y3 y4 y5 y6 y7 y8 y9 y10 y11 y12 y13
  clear hI2 hb
  have y0 := hI3.box2.cell 0
  have y1 := hI3.box2.cell 1
  have y2 := hI3.box2.cell 2
  have y3 := hI3.box2.cell 3
  have y4 := hI3.box2.cell 4
  have y5 := hI3.box2.cell 5
  have y6 := hI3.box2.cell 6
  have y7 := hI3.box2.cell 7
  have y8 := hI3.box2.cell 8
  have y9 := hI3.box2.cell 9
  have y10 := hI3.box2.cell 10
  have y11 := hI3.box2.cell 11
  have y12 := hI3.box2.cell 12
  have y13 := hI3.box2.cell 13
  simp only [List.getElem?_toArray, List.getElem?_cons_succ, List.getElem?_cons_zero] at y0 y1 y2 y3 y4 y5 y6 y7 y8 y9 y10 y11 y12 y13
  go_wp2_with fail
  refine (valid_any n B d B' d' _ ln ln' hI3.n1 hI3.n2).mono ?_
  rw [H3.out]
  rintro e w4 ⟨rfl, hb⟩
  have hI4 := hI3.step hb
  clear y0 y1 y2 y3 y4 y5 y6 y7 y8 y9 y10 y11 y12 y13
  clear hI3 hb
  have y0 := hI4.box1.cell 0
  have y1 := hI4.box1.cell 1
  have y2 := hI4.box1.cell 2
  have y3 := hI4.box1.cell 3
  have y4 := hI4.box1.cell 4
  have y5 := hI4.box1.cell 5
  have y6 := hI4.box1.cell 6
  have y7 := hI4.box1.cell 7
  have y8 := hI4.box1.cell 8
  have y9 := hI4.box1.cell 9
  have y10 := hI4.box1.cell 10
  have y11 := hI4.box1.cell 11
  have y12 := hI4.box1.cell 12
  have y13 := hI4.box1.cell 13
  simp only [List.getElem?_toArray, List.getElem?_cons_succ, List.getElem?_cons_zero] at y0 y1 y2 y3 y4 y5 y6 y7 y8 y9 y10 y11 y12 y13
  go_wp2_with fail
  refine (encode_any m A c A' c' _ om hI4.m1 hI4.m2).mono ?_
  rintro e w5 ⟨rfl, hb⟩
  have hI5 := hI4.step hb
  clear y0 y1 y2 y3 y4 y5 y6 y7 y8 y9 y10 y11 y12 y13
  clear hI4 hb
  generalize htm : encM m = tm at *
  have HTM := Lib.hid htm
  clear htm
  go_wp2_with fail
  refine (decode_any tm _ (by have := HL.out.2; omega)).mono ?_
  rw [HD.out]
  rintro e w6 ⟨E, f, E', f', rfl, hk1, hk2, hb⟩
  have hI6 := hI5.step hb
  clear hI5 hb

  have hb7 : Below w6.heap.size w6 (w6.alloc (.cells #[.int .i64 m.kind, .int .i64 m.fro, .int .i64 m.to, .int .i64 m.seq, .int .i64 m.time, .int .i64 m.aseq, .int .i64 m.aend, .slice E m.prof.length f, .slice E' m.links.length f', .int .i64 m.min, .int .i64 m.speed, .int .i64 m.mode, .int .i64 m.acc, .bool m.whole] 69)) := (Below.refl _ _).alloc (Nat.le_refl _) _
  have hS : (w6.alloc (.cells #[.int .i64 m.kind, .int .i64 m.fro, .int .i64 m.to, .int .i64 m.seq, .int .i64 m.time, .int .i64 m.aseq, .int .i64 m.aend, .slice E m.prof.length f, .slice E' m.links.length f', .int .i64 m.min, .int .i64 m.speed, .int .i64 m.mode, .int .i64 m.acc, .bool m.whole] 69)).cell? ⟨w.heap.size, 0, none⟩ = some (.int .i64 m.kind) ∧ (w6.alloc (.cells #[.int .i64 m.kind, .int .i64 m.fro, .int .i64 m.to, .int .i64 m.seq, .int .i64 m.time, .int .i64 m.aseq, .int .i64 m.aend, .slice E m.prof.length f, .slice E' m.links.length f', .int .i64 m.min, .int .i64 m.speed, .int .i64 m.mode, .int .i64 m.acc, .bool m.whole] 69)).cell? ⟨w.heap.size, 1, none⟩ = some (.int .i64 m.fro) ∧ (w6.alloc (.cells #[.int .i64 m.kind, .int .i64 m.fro, .int .i64 m.to, .int .i64 m.seq, .int .i64 m.time, .int .i64 m.aseq, .int .i64 m.aend, .slice E m.prof.length f, .slice E' m.links.length f', .int .i64 m.min, .int .i64 m.speed, .int .i64 m.mode, .int .i64 m.acc, .bool m.whole] 69)).cell? ⟨w.heap.size, 2, none⟩ = some (.int .i64 m.to) ∧ (w6.alloc (.cells #[.int .i64 m.kind, .int .i64 m.fro, .int .i64 m.to, .int .i64 m.seq, .int .i64 m.time, .int .i64 m.aseq, .int .i64 m.aend, .slice E m.prof.length f, .slice E' m.links.length f', .int .i64 m.min, .int .i64 m.speed, .int .i64 m.mode, .int .i64 m.acc, .bool m.whole] 69)).cell? ⟨w.heap.size, 3, none⟩ = some (.int .i64 m.seq) ∧ (w6.alloc (.cells #[.int .i64 m.kind, .int .i64 m.fro, .int .i64 m.to, .int .i64 m.seq, .int .i64 m.time, .int .i64 m.aseq, .int .i64 m.aend, .slice E m.prof.length f, .slice E' m.links.length f', .int .i64 m.min, .int .i64 m.speed, .int .i64 m.mode, .int .i64 m.acc, .bool m.whole] 69)).cell? ⟨w.heap.size, 4, none⟩ = some (.int .i64 m.time) ∧ (w6.alloc (.cells #[.int .i64 m.kind, .int .i64 m.fro, .int .i64 m.to, .int .i64 m.seq, .int .i64 m.time, .int .i64 m.aseq, .int .i64 m.aend, .slice E m.prof.length f, .slice E' m.links.length f', .int .i64 m.min, .int .i64 m.speed, .int .i64 m.mode, .int .i64 m.acc, .bool m.whole] 69)).cell? ⟨w.heap.size, 5, none⟩ = some (.int .i64 m.aseq) ∧ (w6.alloc (.cells #[.int .i64 m.kind, .int .i64 m.fro, .int .i64 m.to, .int .i64 m.seq, .int .i64 m.time, .int .i64 m.aseq, .int .i64 m.aend, .slice E m.prof.length f, .slice E' m.links.length f', .int .i64 m.min, .int .i64 m.speed, .int .i64 m.mode, .int .i64 m.acc, .bool m.whole] 69)).cell? ⟨w.heap.size, 6, none⟩ = some (.int .i64 m.aend) ∧ (w6.alloc (.cells #[.int .i64 m.kind, .int .i64 m.fro, .int .i64 m.to, .int .i64 m.seq, .int .i64 m.time, .int .i64 m.aseq, .int .i64 m.aend, .slice E m.prof.length f, .slice E' m.links.length f', .int .i64 m.min, .int .i64 m.speed, .int .i64 m.mode, .int .i64 m.acc, .bool m.whole] 69)).cell? ⟨w.heap.size, 7, none⟩ = some (.slice A m.prof.length c) ∧ (w6.alloc (.cells #[.int .i64 m.kind, .int .i64 m.fro, .int .i64 m.to, .int .i64 m.seq, .int .i64 m.time, .int .i64 m.aseq, .int .i64 m.aend, .slice E m.prof.length f, .slice E' m.links.length f', .int .i64 m.min, .int .i64 m.speed, .int .i64 m.mode, .int .i64 m.acc, .bool m.whole] 69)).cell? ⟨w.heap.size, 8, none⟩ = some (.slice A' m.links.length c') ∧ (w6.alloc (.cells #[.int .i64 m.kind, .int .i64 m.fro, .int .i64 m.to, .int .i64 m.seq, .int .i64 m.time, .int .i64 m.aseq, .int .i64 m.aend, .slice E m.prof.length f, .slice E' m.links.length f', .int .i64 m.min, .int .i64 m.speed, .int .i64 m.mode, .int .i64 m.acc, .bool m.whole] 69)).cell? ⟨w.heap.size, 9, none⟩ = some (.int .i64 m.min) ∧ (w6.alloc (.cells #[.int .i64 m.kind, .int .i64 m.fro, .int .i64 m.to, .int .i64 m.seq, .int .i64 m.time, .int .i64 m.aseq, .int .i64 m.aend, .slice E m.prof.length f, .slice E' m.links.length f', .int .i64 m.min, .int .i64 m.speed, .int .i64 m.mode, .int .i64 m.acc, .bool m.whole] 69)).cell? ⟨w.heap.size, 10, none⟩ = some (.int .i64 m.speed) ∧ (w6.alloc (.cells #[.int .i64 m.kind, .int .i64 m.fro, .int .i64 m.to, .int .i64 m.seq, .int .i64 m.time, .int .i64 m.aseq, .int .i64 m.aend, .slice E m.prof.length f, .slice E' m.links.length f', .int .i64 m.min, .int .i64 m.speed, .int .i64 m.mode, .int .i64 m.acc, .bool m.whole] 69)).cell? ⟨w.heap.size, 11, none⟩ = some (.int .i64 m.mode) ∧ (w6.alloc (.cells #[.int .i64 m.kind, .int .i64 m.fro, .int .i64 m.to, .int .i64 m.seq, .int .i64 m.time, .int .i64 m.aseq, .int .i64 m.aend, .slice E m.prof.length f, .slice E' m.links.length f', .int .i64 m.min, .int .i64 m.speed, .int .i64 m.mode, .int .i64 m.acc, .bool m.whole] 69)).cell? ⟨w.heap.size, 12, none⟩ = some (.int .i64 m.acc) ∧ (w6.alloc (.cells #[.int .i64 m.kind, .int .i64 m.fro, .int .i64 m.to, .int .i64 m.seq, .int .i64 m.time, .int .i64 m.aseq, .int .i64 m.aend, .slice E m.prof.length f, .slice E' m.links.length f', .int .i64 m.min, .int .i64 m.speed, .int .i64 m.mode, .int .i64 m.acc, .bool m.whole] 69)).cell? ⟨w.heap.size, 13, none⟩ = some (.bool m.whole) ∧ (w6.alloc (.cells #[.int .i64 m.kind, .int .i64 m.fro, .int .i64 m.to, .int .i64 m.seq, .int .i64 m.time, .int .i64 m.aseq, .int .i64 m.aend, .slice E m.prof.length f, .slice E' m.links.length f', .int .i64 m.min, .int .i64 m.speed, .int .i64 m.mode, .int .i64 m.acc, .bool m.whole] 69)).cell? ⟨w.heap.size + 1, 0, none⟩ = some (.int .i64 n.kind) ∧ (w6.alloc (.cells #[.int .i64 m.kind, .int .i64 m.fro, .int .i64 m.to, .int .i64 m.seq, .int .i64 m.time, .int .i64 m.aseq, .int .i64 m.aend, .slice E m.prof.length f, .slice E' m.links.length f', .int .i64 m.min, .int .i64 m.speed, .int .i64 m.mode, .int .i64 m.acc, .bool m.whole] 69)).cell? ⟨w.heap.size + 1, 1, none⟩ = some (.int .i64 n.fro) ∧ (w6.alloc (.cells #[.int .i64 m.kind, .int .i64 m.fro, .int .i64 m.to, .int .i64 m.seq, .int .i64 m.time, .int .i64 m.aseq, .int .i64 m.aend, .slice E m.prof.length f, .slice E' m.links.length f', .int .i64 m.min, .int .i64 m.speed, .int .i64 m.mode, .int .i64 m.acc, .bool m.whole] 69)).cell? ⟨w.heap.size + 1, 2, none⟩ = some (.int .i64 n.to) ∧ (w6.alloc (.cells #[.int .i64 m.kind, .int .i64 m.fro, .int .i64 m.to, .int .i64 m.seq, .int .i64 m.time, .int .i64 m.aseq, .int .i64 m.aend, .slice E m.prof.length f, .slice E' m.links.length f', .int .i64 m.min, .int .i64 m.speed, .int .i64 m.mode, .int .i64 m.acc, .bool m.whole] 69)).cell? ⟨w.heap.size + 1, 3, none⟩ = some (.int .i64 n.seq) ∧ (w6.alloc (.cells #[.int .i64 m.kind, .int .i64 m.fro, .int .i64 m.to, .int .i64 m.seq, .int .i64 m.time, .int .i64 m.aseq, .int .i64 m.aend, .slice E m.prof.length f, .slice E' m.links.length f', .int .i64 m.min, .int .i64 m.speed, .int .i64 m.mode, .int .i64 m.acc, .bool m.whole] 69)).cell? ⟨w.heap.size + 1, 4, none⟩ = some (.int .i64 n.time) ∧ (w6.alloc (.cells #[.int .i64 m.kind, .int .i64 m.fro, .int .i64 m.to, .int .i64 m.seq, .int .i64 m.time, .int .i64 m.aseq, .int .i64 m.aend, .slice E m.prof.length f, .slice E' m.links.length f', .int .i64 m.min, .int .i64 m.speed, .int .i64 m.mode, .int .i64 m.acc, .bool m.whole] 69)).cell? ⟨w.heap.size + 1, 5, none⟩ = some (.int .i64 n.aseq) ∧ (w6.alloc (.cells #[.int .i64 m.kind, .int .i64 m.fro, .int .i64 m.to, .int .i64 m.seq, .int .i64 m.time, .int .i64 m.aseq, .int .i64 m.aend, .slice E m.prof.length f, .slice E' m.links.length f', .int .i64 m.min, .int .i64 m.speed, .int .i64 m.mode, .int .i64 m.acc, .bool m.whole] 69)).cell? ⟨w.heap.size + 1, 6, none⟩ = some (.int .i64 n.aend) ∧ (w6.alloc (.cells #[.int .i64 m.kind, .int .i64 m.fro, .int .i64 m.to, .int .i64 m.seq, .int .i64 m.time, .int .i64 m.aseq, .int .i64 m.aend, .slice E m.prof.length f, .slice E' m.links.length f', .int .i64 m.min, .int .i64 m.speed, .int .i64 m.mode, .int .i64 m.acc, .bool m.whole] 69)).cell? ⟨w.heap.size + 1, 7, none⟩ = some (.slice B n.prof.length d) ∧ (w6.alloc (.cells #[.int .i64 m.kind, .int .i64 m.fro, .int .i64 m.to, .int .i64 m.seq, .int .i64 m.time, .int .i64 m.aseq, .int .i64 m.aend, .slice E m.prof.length f, .slice E' m.links.length f', .int .i64 m.min, .int .i64 m.speed, .int .i64 m.mode, .int .i64 m.acc, .bool m.whole] 69)).cell? ⟨w.heap.size + 1, 8, none⟩ = some (.slice B' n.links.length d') ∧ (w6.alloc (.cells #[.int .i64 m.kind, .int .i64 m.fro, .int .i64 m.to, .int .i64 m.seq, .int .i64 m.time, .int .i64 m.aseq, .int .i64 m.aend, .slice E m.prof.length f, .slice E' m.links.length f', .int .i64 m.min, .int .i64 m.speed, .int .i64 m.mode, .int .i64 m.acc, .bool m.whole] 69)).cell? ⟨w.heap.size + 1, 9, none⟩ = some (.int .i64 n.min) ∧ (w6.alloc (.cells #[.int .i64 m.kind, .int .i64 m.fro, .int .i64 m.to, .int .i64 m.seq, .int .i64 m.time, .int .i64 m.aseq, .int .i64 m.aend, .slice E m.prof.length f, .slice E' m.links.length f', .int .i64 m.min, .int .i64 m.speed, .int .i64 m.mode, .int .i64 m.acc, .bool m.whole] 69)).cell? ⟨w.heap.size + 1, 10, none⟩ = some (.int .i64 n.speed) ∧ (w6.alloc (.cells #[.int .i64 m.kind, .int .i64 m.fro, .int .i64 m.to, .int .i64 m.seq, .int .i64 m.time, .int .i64 m.aseq, .int .i64 m.aend, .slice E m.prof.length f, .slice E' m.links.length f', .int .i64 m.min, .int .i64 m.speed, .int .i64 m.mode, .int .i64 m.acc, .bool m.whole] 69)).cell? ⟨w.heap.size + 1, 11, none⟩ = some (.int .i64 n.mode) ∧ (w6.alloc (.cells #[.int .i64 m.kind, .int .i64 m.fro, .int .i64 m.to, .int .i64 m.seq, .int .i64 m.time, .int .i64 m.aseq, .int .i64 m.aend, .slice E m.prof.length f, .slice E' m.links.length f', .int .i64 m.min, .int .i64 m.speed, .int .i64 m.mode, .int .i64 m.acc, .bool m.whole] 69)).cell? ⟨w.heap.size + 1, 12, none⟩ = some (.int .i64 n.acc) ∧ (w6.alloc (.cells #[.int .i64 m.kind, .int .i64 m.fro, .int .i64 m.to, .int .i64 m.seq, .int .i64 m.time, .int .i64 m.aseq, .int .i64 m.aend, .slice E m.prof.length f, .slice E' m.links.length f', .int .i64 m.min, .int .i64 m.speed, .int .i64 m.mode, .int .i64 m.acc, .bool m.whole] 69)).cell? ⟨w.heap.size + 1, 13, none⟩ = some (.bool n.whole) ∧ (w6.alloc (.cells #[.int .i64 m.kind, .int .i64 m.fro, .int .i64 m.to, .int .i64 m.seq, .int .i64 m.time, .int .i64 m.aseq, .int .i64 m.aend, .slice E m.prof.length f, .slice E' m.links.length f', .int .i64 m.min, .int .i64 m.speed, .int .i64 m.mode, .int .i64 m.acc, .bool m.whole] 69)).cell? ⟨w6.heap.size, 0, none⟩ = some (.int .i64 m.kind) ∧ (w6.alloc (.cells #[.int .i64 m.kind, .int .i64 m.fro, .int .i64 m.to, .int .i64 m.seq, .int .i64 m.time, .int .i64 m.aseq, .int .i64 m.aend, .slice E m.prof.length f, .slice E' m.links.length f', .int .i64 m.min, .int .i64 m.speed, .int .i64 m.mode, .int .i64 m.acc, .bool m.whole] 69)).cell? ⟨w6.heap.size, 1, none⟩ = some (.int .i64 m.fro) ∧ (w6.alloc (.cells #[.int .i64 m.kind, .int .i64 m.fro, .int .i64 m.to, .int .i64 m.seq, .int .i64 m.time, .int .i64 m.aseq, .int .i64 m.aend, .slice E m.prof.length f, .slice E' m.links.length f', .int .i64 m.min, .int .i64 m.speed, .int .i64 m.mode, .int .i64 m.acc, .bool m.whole] 69)).cell? ⟨w6.heap.size, 2, none⟩ = some (.int .i64 m.to) ∧ (w6.alloc (.cells #[.int .i64 m.kind, .int .i64 m.fro, .int .i64 m.to, .int .i64 m.seq, .int .i64 m.time, .int .i64 m.aseq, .int .i64 m.aend, .slice E m.prof.length f, .slice E' m.links.length f', .int .i64 m.min, .int .i64 m.speed, .int .i64 m.mode, .int .i64 m.acc, .bool m.whole] 69)).cell? ⟨w6.heap.size, 3, none⟩ = some (.int .i64 m.seq) ∧ (w6.alloc (.cells #[.int .i64 m.kind, .int .i64 m.fro, .int .i64 m.to, .int .i64 m.seq, .int .i64 m.time, .int .i64 m.aseq, .int .i64 m.aend, .slice E m.prof.length f, .slice E' m.links.length f', .int .i64 m.min, .int .i64 m.speed, .int .i64 m.mode, .int .i64 m.acc, .bool m.whole] 69)).cell? ⟨w6.heap.size, 4, none⟩ = some (.int .i64 m.time) ∧ (w6.alloc (.cells #[.int .i64 m.kind, .int .i64 m.fro, .int .i64 m.to, .int .i64 m.seq, .int .i64 m.time, .int .i64 m.aseq, .int .i64 m.aend, .slice E m.prof.length f, .slice E' m.links.length f', .int .i64 m.min, .int .i64 m.speed, .int .i64 m.mode, .int .i64 m.acc, .bool m.whole] 69)).cell? ⟨w6.heap.size, 5, none⟩ = some (.int .i64 m.aseq) ∧ (w6.alloc (.cells #[.int .i64 m.kind, .int .i64 m.fro, .int .i64 m.to, .int .i64 m.seq, .int .i64 m.time, .int .i64 m.aseq, .int .i64 m.aend, .slice E m.prof.length f, .slice E' m.links.length f', .int .i64 m.min, .int .i64 m.speed, .int .i64 m.mode, .int .i64 m.acc, .bool m.whole] 69)).cell? ⟨w6.heap.size, 6, none⟩ = some (.int .i64 m.aend) ∧ (w6.alloc (.cells #[.int .i64 m.kind, .int .i64 m.fro, .int .i64 m.to, .int .i64 m.seq, .int .i64 m.time, .int .i64 m.aseq, .int .i64 m.aend, .slice E m.prof.length f, .slice E' m.links.length f', .int .i64 m.min, .int .i64 m.speed, .int .i64 m.mode, .int .i64 m.acc, .bool m.whole] 69)).cell? ⟨w6.heap.size, 7, none⟩ = some (.slice E m.prof.length f) ∧ (w6.alloc (.cells #[.int .i64 m.kind, .int .i64 m.fro, .int .i64 m.to, .int .i64 m.seq, .int .i64 m.time, .int .i64 m.aseq, .int .i64 m.aend, .slice E m.prof.length f, .slice E' m.links.length f', .int .i64 m.min, .int .i64 m.speed, .int .i64 m.mode, .int .i64 m.acc, .bool m.whole] 69)).cell? ⟨w6.heap.size, 8, none⟩ = some (.slice E' m.links.length f') ∧ (w6.alloc (.cells #[.int .i64 m.kind, .int .i64 m.fro, .int .i64 m.to, .int .i64 m.seq, .int .i64 m.time, .int .i64 m.aseq, .int .i64 m.aend, .slice E m.prof.length f, .slice E' m.links.length f', .int .i64 m.min, .int .i64 m.speed, .int .i64 m.mode, .int .i64 m.acc, .bool m.whole] 69)).cell? ⟨w6.heap.size, 9, none⟩ = some (.int .i64 m.min) ∧ (w6.alloc (.cells #[.int .i64 m.kind, .int .i64 m.fro, .int .i64 m.to, .int .i64 m.seq, .int .i64 m.time, .int .i64 m.aseq, .int .i64 m.aend, .slice E m.prof.length f, .slice E' m.links.length f', .int .i64 m.min, .int .i64 m.speed, .int .i64 m.mode, .int .i64 m.acc, .bool m.whole] 69)).cell? ⟨w6.heap.size, 10, none⟩ = some (.int .i64 m.speed) ∧ (w6.alloc (.cells #[.int .i64 m.kind, .int .i64 m.fro, .int .i64 m.to, .int .i64 m.seq, .int .i64 m.time, .int .i64 m.aseq, .int .i64 m.aend, .slice E m.prof.length f, .slice E' m.links.length f', .int .i64 m.min, .int .i64 m.speed, .int .i64 m.mode, .int .i64 m.acc, .bool m.whole] 69)).cell? ⟨w6.heap.size, 11, none⟩ = some (.int .i64 m.mode) ∧ (w6.alloc (.cells #[.int .i64 m.kind, .int .i64 m.fro, .int .i64 m.to, .int .i64 m.seq, .int .i64 m.time, .int .i64 m.aseq, .int .i64 m.aend, .slice E m.prof.length f, .slice E' m.links.length f', .int .i64 m.min, .int .i64 m.speed, .int .i64 m.mode, .int .i64 m.acc, .bool m.whole] 69)).cell? ⟨w6.heap.size, 12, none⟩ = some (.int .i64 m.acc) ∧ (w6.alloc (.cells #[.int .i64 m.kind, .int .i64 m.fro, .int .i64 m.to, .int .i64 m.seq, .int .i64 m.time, .int .i64 m.aseq, .int .i64 m.aend, .slice E m.prof.length f, .slice E' m.links.length f', .int .i64 m.min, .int .i64 m.speed, .int .i64 m.mode, .int .i64 m.acc, .bool m.whole] 69)).cell? ⟨w6.heap.size, 13, none⟩ = some (.bool m.whole) ∧ Inv3 w w.heap.size (w.heap.size + 1) w6.heap.size m n A c A' c' B d B' d' E f E' f' (w6.alloc (.cells #[.int .i64 m.kind, .int .i64 m.fro, .int .i64 m.to, .int .i64 m.seq, .int .i64 m.time, .int .i64 m.aseq, .int .i64 m.aend, .slice E m.prof.length f, .slice E' m.links.length f', .int .i64 m.min, .int .i64 m.speed, .int .i64 m.mode, .int .i64 m.acc, .bool m.whole] 69)) := Inv3.cells ⟨hI6.step hb7, Blk.new _ _ _ _ rfl, hk1.now hb7, hk2.now hb7⟩
  have hz7 : (w6.alloc (.cells #[.int .i64 m.kind, .int .i64 m.fro, .int .i64 m.to, .int .i64 m.seq, .int .i64 m.time, .int .i64 m.aseq, .int .i64 m.aend, .slice E m.prof.length f, .slice E' m.links.length f', .int .i64 m.min, .int .i64 m.speed, .int .i64 m.mode, .int .i64 m.acc, .bool m.whole] 69)).heap.size = w6.heap.size + 1 := World.size_alloc _ _
  clear hI6 hb7 hk1 hk2
  go_upto_region 5 with (fail)
  generalize (w6.alloc (.cells #[.int .i64 m.kind, .int .i64 m.fro, .int .i64 m.to, .int .i64 m.seq, .int .i64 m.time, .int .i64 m.aseq, .int .i64 m.aend, .slice E m.prof.length f, .slice E' m.links.length f', .int .i64 m.min, .int .i64 m.speed, .int .i64 m.mode, .int .i64 m.acc, .bool m.whole] 69)) = w7 at *
  generalize w6.heap.size = b3 at *
  go_region_held3 (fun w' => w'.cell? ⟨w.heap.size, 0, none⟩ = some (.int .i64 m.kind) ∧ w'.cell? ⟨w.heap.size, 1, none⟩ = some (.int .i64 m.fro) ∧ w'.cell? ⟨w.heap.size, 2, none⟩ = some (.int .i64 m.to) ∧ w'.cell? ⟨w.heap.size, 3, none⟩ = some (.int .i64 m.seq) ∧ w'.cell? ⟨w.heap.size, 4, none⟩ = some (.int .i64 m.time) ∧ w'.cell? ⟨w.heap.size, 5, none⟩ = some (.int .i64 m.aseq) ∧ w'.cell? ⟨w.heap.size, 6, none⟩ = some (.int .i64 m.aend) ∧ w'.cell? ⟨w.heap.size, 7, none⟩ = some (.slice A m.prof.length c) ∧ w'.cell? ⟨w.heap.size, 8, none⟩ = some (.slice A' m.links.length c') ∧ w'.cell? ⟨w.heap.size, 9, none⟩ = some (.int .i64 m.min) ∧ w'.cell? ⟨w.heap.size, 10, none⟩ = some (.int .i64 m.speed) ∧ w'.cell? ⟨w.heap.size, 11, none⟩ = some (.int .i64 m.mode) ∧ w'.cell? ⟨w.heap.size, 12, none⟩ = some (.int .i64 m.acc) ∧ w'.cell? ⟨w.heap.size, 13, none⟩ = some (.bool m.whole) ∧ w'.cell? ⟨w.heap.size + 1, 0, none⟩ = some (.int .i64 n.kind) ∧ w'.cell? ⟨w.heap.size + 1, 1, none⟩ = some (.int .i64 n.fro) ∧ w'.cell? ⟨w.heap.size + 1, 2, none⟩ = some (.int .i64 n.to) ∧ w'.cell? ⟨w.heap.size + 1, 3, none⟩ = some (.int .i64 n.seq) ∧ w'.cell? ⟨w.heap.size + 1, 4, none⟩ = some (.int .i64 n.time) ∧ w'.cell? ⟨w.heap.size + 1, 5, none⟩ = some (.int .i64 n.aseq) ∧ w'.cell? ⟨w.heap.size + 1, 6, none⟩ = some (.int .i64 n.aend) ∧ w'.cell? ⟨w.heap.size + 1, 7, none⟩ = some (.slice B n.prof.length d) ∧ w'.cell? ⟨w.heap.size + 1, 8, none⟩ = some (.slice B' n.links.length d') ∧ w'.cell? ⟨w.heap.size + 1, 9, none⟩ = some (.int .i64 n.min) ∧ w'.cell? ⟨w.heap.size + 1, 10, none⟩ = some (.int .i64 n.speed) ∧ w'.cell? ⟨w.heap.size + 1, 11, none⟩ = some (.int .i64 n.mode) ∧ w'.cell? ⟨w.heap.size + 1, 12, none⟩ = some (.int .i64 n.acc) ∧ w'.cell? ⟨w.heap.size + 1, 13, none⟩ = some (.bool n.whole) ∧ w'.cell? ⟨b3, 0, none⟩ = some (.int .i64 m.kind) ∧ w'.cell? ⟨b3, 1, none⟩ = some (.int .i64 m.fro) ∧ w'.cell? ⟨b3, 2, none⟩ = some (.int .i64 m.to) ∧ w'.cell? ⟨b3, 3, none⟩ = some (.int .i64 m.seq) ∧ w'.cell? ⟨b3, 4, none⟩ = some (.int .i64 m.time) ∧ w'.cell? ⟨b3, 5, none⟩ = some (.int .i64 m.aseq) ∧ w'.cell? ⟨b3, 6, none⟩ = some (.int .i64 m.aend) ∧ w'.cell? ⟨b3, 7, none⟩ = some (.slice E m.prof.length f) ∧ w'.cell? ⟨b3, 8, none⟩ = some (.slice E' m.links.length f') ∧ w'.cell? ⟨b3, 9, none⟩ = some (.int .i64 m.min) ∧ w'.cell? ⟨b3, 10, none⟩ = some (.int .i64 m.speed) ∧ w'.cell? ⟨b3, 11, none⟩ = some (.int .i64 m.mode) ∧ w'.cell? ⟨b3, 12, none⟩ = some (.int .i64 m.acc) ∧ w'.cell? ⟨b3, 13, none⟩ = some (.bool m.whole) ∧ Inv3 w w.heap.size (w.heap.size + 1) b3 m n A c A' c' B d B' d' E f E' f' w')
    (first | assumption | exact held3m_drew ‹_› | (refine held3m_step ?_ ‹_›; assumption))
    (first
      | (go_at_call 64; (with_reducible refine (rSame_msg m n A c A' c' B d B' d' _ lm lm' (inv3_of (by assumption)).two.m1 (inv3_of (by assumption)).two.m2 ln ln' (inv3_of (by assumption)).two.n1 (inv3_of (by assumption)).two.n2).mono ?_); rw [HS.out]; rintro e wq ⟨rfl, hq⟩)
      | (go_at_call 64; (with_reducible refine (rSame_msg m m E f E' f' A c A' c' _ lm lm' (inv3_of (by assumption)).k1 (inv3_of (by assumption)).k2 lm lm' (inv3_of (by assumption)).two.m1 (inv3_of (by assumption)).two.m2).mono ?_); rw [same_mm]; rintro e wq ⟨rfl, hq⟩)
      | (go_at_call 61; refine (encode_any n B d B' d' _ on (inv3_of (by assumption)).two.n1 (inv3_of (by assumption)).two.n2).mono ?_; rw [HE.out]; rintro e wq ⟨rfl, hq⟩)
      | (go_at_call 58; refine (alive37 _).mono ?_; rintro e wq ⟨rfl, hq⟩))
  all_goals (go_wp2_with fail)
  all_goals go_ret
  all_goals (refine ⟨?_, (inv3_of (by assumption)).two.below⟩)
  all_goals (first | rfl | simp)
set_option maxRecDepth 100000 in
set_option maxHeartbeats 8000000 in
theorem messageReturns_other (m n : Msg) (A : Option Addr) (c : Nat) (A' : Option Addr) (c' : Nat) (B : Option Addr) (d : Nat) (B' : Option Addr) (d' : Nat) (w : World) (om : m.Ok) (hm : RdS cSeg w w.heap.size A m.prof) (hm' : RdS cLnk w w.heap.size A' m.links) (on : n.Ok) (hn : RdS cSeg w w.heap.size B n.prof) (hn' : RdS cLnk w w.heap.size B' n.links) (h0 : fewB m = true) (h1 : fewB n = true) (h2 : validB m = true) (h3 : validB n = true) (hmn : ¬ m = n) :
    Calls Try.prog 17 #[.agg #[.int .i64 m.kind, .int .i64 m.fro, .int .i64 m.to, .int .i64 m.seq, .int .i64 m.time, .int .i64 m.aseq, .int .i64 m.aend, .slice A m.prof.length c, .slice A' m.links.length c', .int .i64 m.min, .int .i64 m.speed, .int .i64 m.mode, .int .i64 m.acc, .bool m.whole], .agg #[.int .i64 n.kind, .int .i64 n.fro, .int .i64 n.to, .int .i64 n.seq, .int .i64 n.time, .int .i64 n.aseq, .int .i64 n.aend, .slice B n.prof.length d, .slice B' n.links.length d', .int .i64 n.min, .int .i64 n.speed, .int .i64 n.mode, .int .i64 n.acc, .bool n.whole]] w fun e w' => e = .returned (.bool true) ∧ Below w.heap.size w w' := by
  have op := seg_oks hm
  have ol := lnk_oks hm'
  have op' := seg_oks hn
  have ol' := lnk_oks hn'
  have HL := Lib.hid (encM_len h2 om op ol)
  have HD := Lib.hid (dec_enc h2 om op ol)
  have HS := Lib.hid (sameM_ne hmn)
  have HE := Lib.hid (show ¬ encM n = encM m from fun h => hmn (enc_inj h2 om op ol h3 on op' ol' h))
  clear op ol op' ol' hmn
  have e63 : maxLen ≤ 9223372036854775807 := by decide
  have lm : m.prof.length ≤ 9223372036854775807 := Nat.le_trans om.prof e63
  have lm' : m.links.length ≤ 9223372036854775807 := Nat.le_trans om.links e63
  have ln : n.prof.length ≤ 9223372036854775807 := Nat.le_trans on.prof e63
  have ln' : n.links.length ≤ 9223372036854775807 := Nat.le_trans on.links e63
  clear e63
  have hI := Inv2.start (c := c) (c' := c') (d := d) (d' := d') hm hm' hn hn'
  clear hm hm' hn hn'
  have H0 := Lib.hid h0
  clear h0
  have H1 := Lib.hid h1
  clear h1
  have H2 := Lib.hid h2
  clear h2
  have H3 := Lib.hid h3
  clear h3
  go_enter Try.func17, Try.ntmps17
  go_wp2_with fail
  refine (few_any m A c A' c' _ lm lm').mono ?_
  rw [H0.out]
  rintro e w1 ⟨rfl, hb⟩
  have hI1 := hI.step hb
  clear hI hb
  have y0 := hI1.box2.cell 0
  have y1 := hI1.box2.cell 1
  have y2 := hI1.box2.cell 2
  have y3 := hI1.box2.cell 3
  have y4 := hI1.box2.cell 4
  have y5 := hI1.box2.cell 5
  have y6 := hI1.box2.cell 6
  have y7 := hI1.box2.cell 7
  have y8 := hI1.box2.cell 8
  have y9 := hI1.box2.cell 9
  have y10 := hI1.box2.cell 10
  have y11 := hI1.box2.cell 11
  have y12 := hI1.box2.cell 12
  have y13 := hI1.box2.cell 13
  simp only [List.getElem?_toArray, List.getElem?_cons_succ, List.getElem?_cons_zero] at y0 y1 y2 y3 y4 y5 y6 y7 y8 y9 y10 y11 y12 y13
  go_wp2_with fail
  refine (few_any n B d B' d' _ ln ln').mono ?_
  rw [H1.out]
  rintro e w2 ⟨rfl, hb⟩
  have hI2 := hI1.step hb
  clear y0 y1 y2 y3 y4 y5 y6 y7 y8 y9 y10 y11 y12 y13
  clear hI1 hb
  have y0 := hI2.box1.cell 0
  have y1 := hI2.box1.cell 1
  have y2 := hI2.box1.cell 2
  have y3 := hI2.box1.cell 3
  have y4 := hI2.box1.cell 4
  have y5 := hI2.box1.cell 5
  have y6 := hI2.box1.cell 6
  have y7 := hI2.box1.cell 7
  have y8 := hI2.box1.cell 8
  have y9 := hI2.box1.cell 9
  have y10 := hI2.box1.cell 10
  have y11 := hI2.box1.cell 11
  have y12 := hI2.box1.cell 12
  have y13 := hI2.box1.cell 13
  simp only [List.getElem?_toArray, List.getElem?_cons_succ, List.getElem?_cons_zero] at y0 y1 y2 y3 y4 y5 y6 y7 y8 y9 y10 y11 y12 y13
  go_wp2_with fail
  refine (valid_any m A c A' c' _ lm lm' hI2.m1 hI2.m2).mono ?_
  rw [H2.out]
  rintro e w3 ⟨rfl, hb⟩
  have hI3 := hI2.step hb
  clear y0 y1 y2 y3 y4 y5 y6 y7 y8 y9 y10 y11 y12 y13
  clear hI2 hb
  have y0 := hI3.box2.cell 0
  have y1 := hI3.box2.cell 1
  have y2 := hI3.box2.cell 2
  have y3 := hI3.box2.cell 3
  have y4 := hI3.box2.cell 4
  have y5 := hI3.box2.cell 5
  have y6 := hI3.box2.cell 6
  have y7 := hI3.box2.cell 7
  have y8 := hI3.box2.cell 8
  have y9 := hI3.box2.cell 9
  have y10 := hI3.box2.cell 10
  have y11 := hI3.box2.cell 11
  have y12 := hI3.box2.cell 12
  have y13 := hI3.box2.cell 13
  simp only [List.getElem?_toArray, List.getElem?_cons_succ, List.getElem?_cons_zero] at y0 y1 y2 y3 y4 y5 y6 y7 y8 y9 y10 y11 y12 y13
  go_wp2_with fail
  refine (valid_any n B d B' d' _ ln ln' hI3.n1 hI3.n2).mono ?_
  rw [H3.out]
  rintro e w4 ⟨rfl, hb⟩
  have hI4 := hI3.step hb
  clear y0 y1 y2 y3 y4 y5 y6 y7 y8 y9 y10 y11 y12 y13
  clear hI3 hb
  have y0 := hI4.box1.cell 0
  have y1 := hI4.box1.cell 1
  have y2 := hI4.box1.cell 2
  have y3 := hI4.box1.cell 3
  have y4 := hI4.box1.cell 4
  have y5 := hI4.box1.cell 5
  have y6 := hI4.box1.cell 6
  have y7 := hI4.box1.cell 7
  have y8 := hI4.box1.cell 8
  have y9 := hI4.box1.cell 9
  have y10 := hI4.box1.cell 10
  have y11 := hI4.box1.cell 11
  have y12 := hI4.box1.cell 12
  have y13 := hI4.box1.cell 13
  simp only [List.getElem?_toArray, List.getElem?_cons_succ, List.getElem?_cons_zero] at y0 y1 y2 y3 y4 y5 y6 y7 y8 y9 y10 y11 y12 y13
  go_wp2_with fail
  refine (encode_any m A c A' c' _ om hI4.m1 hI4.m2).mono ?_
  rintro e w5 ⟨rfl, hb⟩
  have hI5 := hI4.step hb
  clear y0 y1 y2 y3 y4 y5 y6 y7 y8 y9 y10 y11 y12 y13
  clear hI4 hb
  generalize htm : encM m = tm at *
  have HTM := Lib.hid htm
  clear htm
  go_wp2_with fail
  refine (decode_any tm _ (by have := HL.out.2; omega)).mono ?_
  rw [HD.out]
  rintro e w6 ⟨E, f, E', f', rfl, hk1, hk2, hb⟩
  have hI6 := hI5.step hb
  clear hI5 hb

  have hb7 : Below w6.heap.size w6 (w6.alloc (.cells #[.int .i64 m.kind, .int .i64 m.fro, .int .i64 m.to, .int .i64 m.seq, .int .i64 m.time, .int .i64 m.aseq, .int .i64 m.aend, .slice E m.prof.length f, .slice E' m.links.length f', .int .i64 m.min, .int .i64 m.speed, .int .i64 m.mode, .int .i64 m.acc, .bool m.whole] 69)) := (Below.refl _ _).alloc (Nat.le_refl _) _
  have hS : (w6.alloc (.cells #[.int .i64 m.kind, .int .i64 m.fro, .int .i64 m.to, .int .i64 m.seq, .int .i64 m.time, .int .i64 m.aseq, .int .i64 m.aend, .slice E m.prof.length f, .slice E' m.links.length f', .int .i64 m.min, .int .i64 m.speed, .int .i64 m.mode, .int .i64 m.acc, .bool m.whole] 69)).cell? ⟨w.heap.size, 0, none⟩ = some (.int .i64 m.kind) ∧ (w6.alloc (.cells #[.int .i64 m.kind, .int .i64 m.fro, .int .i64 m.to, .int .i64 m.seq, .int .i64 m.time, .int .i64 m.aseq, .int .i64 m.aend, .slice E m.prof.length f, .slice E' m.links.length f', .int .i64 m.min, .int .i64 m.speed, .int .i64 m.mode, .int .i64 m.acc, .bool m.whole] 69)).cell? ⟨w.heap.size, 1, none⟩ = some (.int .i64 m.fro) ∧ (w6.alloc (.cells #[.int .i64 m.kind, .int .i64 m.fro, .int .i64 m.to, .int .i64 m.seq, .int .i64 m.time, .int .i64 m.aseq, .int .i64 m.aend, .slice E m.prof.length f, .slice E' m.links.length f', .int .i64 m.min, .int .i64 m.speed, .int .i64 m.mode, .int .i64 m.acc, .bool m.whole] 69)).cell? ⟨w.heap.size, 2, none⟩ = some (.int .i64 m.to) ∧ (w6.alloc (.cells #[.int .i64 m.kind, .int .i64 m.fro, .int .i64 m.to, .int .i64 m.seq, .int .i64 m.time, .int .i64 m.aseq, .int .i64 m.aend, .slice E m.prof.length f, .slice E' m.links.length f', .int .i64 m.min, .int .i64 m.speed, .int .i64 m.mode, .int .i64 m.acc, .bool m.whole] 69)).cell? ⟨w.heap.size, 3, none⟩ = some (.int .i64 m.seq) ∧ (w6.alloc (.cells #[.int .i64 m.kind, .int .i64 m.fro, .int .i64 m.to, .int .i64 m.seq, .int .i64 m.time, .int .i64 m.aseq, .int .i64 m.aend, .slice E m.prof.length f, .slice E' m.links.length f', .int .i64 m.min, .int .i64 m.speed, .int .i64 m.mode, .int .i64 m.acc, .bool m.whole] 69)).cell? ⟨w.heap.size, 4, none⟩ = some (.int .i64 m.time) ∧ (w6.alloc (.cells #[.int .i64 m.kind, .int .i64 m.fro, .int .i64 m.to, .int .i64 m.seq, .int .i64 m.time, .int .i64 m.aseq, .int .i64 m.aend, .slice E m.prof.length f, .slice E' m.links.length f', .int .i64 m.min, .int .i64 m.speed, .int .i64 m.mode, .int .i64 m.acc, .bool m.whole] 69)).cell? ⟨w.heap.size, 5, none⟩ = some (.int .i64 m.aseq) ∧ (w6.alloc (.cells #[.int .i64 m.kind, .int .i64 m.fro, .int .i64 m.to, .int .i64 m.seq, .int .i64 m.time, .int .i64 m.aseq, .int .i64 m.aend, .slice E m.prof.length f, .slice E' m.links.length f', .int .i64 m.min, .int .i64 m.speed, .int .i64 m.mode, .int .i64 m.acc, .bool m.whole] 69)).cell? ⟨w.heap.size, 6, none⟩ = some (.int .i64 m.aend) ∧ (w6.alloc (.cells #[.int .i64 m.kind, .int .i64 m.fro, .int .i64 m.to, .int .i64 m.seq, .int .i64 m.time, .int .i64 m.aseq, .int .i64 m.aend, .slice E m.prof.length f, .slice E' m.links.length f', .int .i64 m.min, .int .i64 m.speed, .int .i64 m.mode, .int .i64 m.acc, .bool m.whole] 69)).cell? ⟨w.heap.size, 7, none⟩ = some (.slice A m.prof.length c) ∧ (w6.alloc (.cells #[.int .i64 m.kind, .int .i64 m.fro, .int .i64 m.to, .int .i64 m.seq, .int .i64 m.time, .int .i64 m.aseq, .int .i64 m.aend, .slice E m.prof.length f, .slice E' m.links.length f', .int .i64 m.min, .int .i64 m.speed, .int .i64 m.mode, .int .i64 m.acc, .bool m.whole] 69)).cell? ⟨w.heap.size, 8, none⟩ = some (.slice A' m.links.length c') ∧ (w6.alloc (.cells #[.int .i64 m.kind, .int .i64 m.fro, .int .i64 m.to, .int .i64 m.seq, .int .i64 m.time, .int .i64 m.aseq, .int .i64 m.aend, .slice E m.prof.length f, .slice E' m.links.length f', .int .i64 m.min, .int .i64 m.speed, .int .i64 m.mode, .int .i64 m.acc, .bool m.whole] 69)).cell? ⟨w.heap.size, 9, none⟩ = some (.int .i64 m.min) ∧ (w6.alloc (.cells #[.int .i64 m.kind, .int .i64 m.fro, .int .i64 m.to, .int .i64 m.seq, .int .i64 m.time, .int .i64 m.aseq, .int .i64 m.aend, .slice E m.prof.length f, .slice E' m.links.length f', .int .i64 m.min, .int .i64 m.speed, .int .i64 m.mode, .int .i64 m.acc, .bool m.whole] 69)).cell? ⟨w.heap.size, 10, none⟩ = some (.int .i64 m.speed) ∧ (w6.alloc (.cells #[.int .i64 m.kind, .int .i64 m.fro, .int .i64 m.to, .int .i64 m.seq, .int .i64 m.time, .int .i64 m.aseq, .int .i64 m.aend, .slice E m.prof.length f, .slice E' m.links.length f', .int .i64 m.min, .int .i64 m.speed, .int .i64 m.mode, .int .i64 m.acc, .bool m.whole] 69)).cell? ⟨w.heap.size, 11, none⟩ = some (.int .i64 m.mode) ∧ (w6.alloc (.cells #[.int .i64 m.kind, .int .i64 m.fro, .int .i64 m.to, .int .i64 m.seq, .int .i64 m.time, .int .i64 m.aseq, .int .i64 m.aend, .slice E m.prof.length f, .slice E' m.links.length f', .int .i64 m.min, .int .i64 m.speed, .int .i64 m.mode, .int .i64 m.acc, .bool m.whole] 69)).cell? ⟨w.heap.size, 12, none⟩ = some (.int .i64 m.acc) ∧ (w6.alloc (.cells #[.int .i64 m.kind, .int .i64 m.fro, .int .i64 m.to, .int .i64 m.seq, .int .i64 m.time, .int .i64 m.aseq, .int .i64 m.aend, .slice E m.prof.length f, .slice E' m.links.length f', .int .i64 m.min, .int .i64 m.speed, .int .i64 m.mode, .int .i64 m.acc, .bool m.whole] 69)).cell? ⟨w.heap.size, 13, none⟩ = some (.bool m.whole) ∧ (w6.alloc (.cells #[.int .i64 m.kind, .int .i64 m.fro, .int .i64 m.to, .int .i64 m.seq, .int .i64 m.time, .int .i64 m.aseq, .int .i64 m.aend, .slice E m.prof.length f, .slice E' m.links.length f', .int .i64 m.min, .int .i64 m.speed, .int .i64 m.mode, .int .i64 m.acc, .bool m.whole] 69)).cell? ⟨w.heap.size + 1, 0, none⟩ = some (.int .i64 n.kind) ∧ (w6.alloc (.cells #[.int .i64 m.kind, .int .i64 m.fro, .int .i64 m.to, .int .i64 m.seq, .int .i64 m.time, .int .i64 m.aseq, .int .i64 m.aend, .slice E m.prof.length f, .slice E' m.links.length f', .int .i64 m.min, .int .i64 m.speed, .int .i64 m.mode, .int .i64 m.acc, .bool m.whole] 69)).cell? ⟨w.heap.size + 1, 1, none⟩ = some (.int .i64 n.fro) ∧ (w6.alloc (.cells #[.int .i64 m.kind, .int .i64 m.fro, .int .i64 m.to, .int .i64 m.seq, .int .i64 m.time, .int .i64 m.aseq, .int .i64 m.aend, .slice E m.prof.length f, .slice E' m.links.length f', .int .i64 m.min, .int .i64 m.speed, .int .i64 m.mode, .int .i64 m.acc, .bool m.whole] 69)).cell? ⟨w.heap.size + 1, 2, none⟩ = some (.int .i64 n.to) ∧ (w6.alloc (.cells #[.int .i64 m.kind, .int .i64 m.fro, .int .i64 m.to, .int .i64 m.seq, .int .i64 m.time, .int .i64 m.aseq, .int .i64 m.aend, .slice E m.prof.length f, .slice E' m.links.length f', .int .i64 m.min, .int .i64 m.speed, .int .i64 m.mode, .int .i64 m.acc, .bool m.whole] 69)).cell? ⟨w.heap.size + 1, 3, none⟩ = some (.int .i64 n.seq) ∧ (w6.alloc (.cells #[.int .i64 m.kind, .int .i64 m.fro, .int .i64 m.to, .int .i64 m.seq, .int .i64 m.time, .int .i64 m.aseq, .int .i64 m.aend, .slice E m.prof.length f, .slice E' m.links.length f', .int .i64 m.min, .int .i64 m.speed, .int .i64 m.mode, .int .i64 m.acc, .bool m.whole] 69)).cell? ⟨w.heap.size + 1, 4, none⟩ = some (.int .i64 n.time) ∧ (w6.alloc (.cells #[.int .i64 m.kind, .int .i64 m.fro, .int .i64 m.to, .int .i64 m.seq, .int .i64 m.time, .int .i64 m.aseq, .int .i64 m.aend, .slice E m.prof.length f, .slice E' m.links.length f', .int .i64 m.min, .int .i64 m.speed, .int .i64 m.mode, .int .i64 m.acc, .bool m.whole] 69)).cell? ⟨w.heap.size + 1, 5, none⟩ = some (.int .i64 n.aseq) ∧ (w6.alloc (.cells #[.int .i64 m.kind, .int .i64 m.fro, .int .i64 m.to, .int .i64 m.seq, .int .i64 m.time, .int .i64 m.aseq, .int .i64 m.aend, .slice E m.prof.length f, .slice E' m.links.length f', .int .i64 m.min, .int .i64 m.speed, .int .i64 m.mode, .int .i64 m.acc, .bool m.whole] 69)).cell? ⟨w.heap.size + 1, 6, none⟩ = some (.int .i64 n.aend) ∧ (w6.alloc (.cells #[.int .i64 m.kind, .int .i64 m.fro, .int .i64 m.to, .int .i64 m.seq, .int .i64 m.time, .int .i64 m.aseq, .int .i64 m.aend, .slice E m.prof.length f, .slice E' m.links.length f', .int .i64 m.min, .int .i64 m.speed, .int .i64 m.mode, .int .i64 m.acc, .bool m.whole] 69)).cell? ⟨w.heap.size + 1, 7, none⟩ = some (.slice B n.prof.length d) ∧ (w6.alloc (.cells #[.int .i64 m.kind, .int .i64 m.fro, .int .i64 m.to, .int .i64 m.seq, .int .i64 m.time, .int .i64 m.aseq, .int .i64 m.aend, .slice E m.prof.length f, .slice E' m.links.length f', .int .i64 m.min, .int .i64 m.speed, .int .i64 m.mode, .int .i64 m.acc, .bool m.whole] 69)).cell? ⟨w.heap.size + 1, 8, none⟩ = some (.slice B' n.links.length d') ∧ (w6.alloc (.cells #[.int .i64 m.kind, .int .i64 m.fro, .int .i64 m.to, .int .i64 m.seq, .int .i64 m.time, .int .i64 m.aseq, .int .i64 m.aend, .slice E m.prof.length f, .slice E' m.links.length f', .int .i64 m.min, .int .i64 m.speed, .int .i64 m.mode, .int .i64 m.acc, .bool m.whole] 69)).cell? ⟨w.heap.size + 1, 9, none⟩ = some (.int .i64 n.min) ∧ (w6.alloc (.cells #[.int .i64 m.kind, .int .i64 m.fro, .int .i64 m.to, .int .i64 m.seq, .int .i64 m.time, .int .i64 m.aseq, .int .i64 m.aend, .slice E m.prof.length f, .slice E' m.links.length f', .int .i64 m.min, .int .i64 m.speed, .int .i64 m.mode, .int .i64 m.acc, .bool m.whole] 69)).cell? ⟨w.heap.size + 1, 10, none⟩ = some (.int .i64 n.speed) ∧ (w6.alloc (.cells #[.int .i64 m.kind, .int .i64 m.fro, .int .i64 m.to, .int .i64 m.seq, .int .i64 m.time, .int .i64 m.aseq, .int .i64 m.aend, .slice E m.prof.length f, .slice E' m.links.length f', .int .i64 m.min, .int .i64 m.speed, .int .i64 m.mode, .int .i64 m.acc, .bool m.whole] 69)).cell? ⟨w.heap.size + 1, 11, none⟩ = some (.int .i64 n.mode) ∧ (w6.alloc (.cells #[.int .i64 m.kind, .int .i64 m.fro, .int .i64 m.to, .int .i64 m.seq, .int .i64 m.time, .int .i64 m.aseq, .int .i64 m.aend, .slice E m.prof.length f, .slice E' m.links.length f', .int .i64 m.min, .int .i64 m.speed, .int .i64 m.mode, .int .i64 m.acc, .bool m.whole] 69)).cell? ⟨w.heap.size + 1, 12, none⟩ = some (.int .i64 n.acc) ∧ (w6.alloc (.cells #[.int .i64 m.kind, .int .i64 m.fro, .int .i64 m.to, .int .i64 m.seq, .int .i64 m.time, .int .i64 m.aseq, .int .i64 m.aend, .slice E m.prof.length f, .slice E' m.links.length f', .int .i64 m.min, .int .i64 m.speed, .int .i64 m.mode, .int .i64 m.acc, .bool m.whole] 69)).cell? ⟨w.heap.size + 1, 13, none⟩ = some (.bool n.whole) ∧ (w6.alloc (.cells #[.int .i64 m.kind, .int .i64 m.fro, .int .i64 m.to, .int .i64 m.seq, .int .i64 m.time, .int .i64 m.aseq, .int .i64 m.aend, .slice E m.prof.length f, .slice E' m.links.length f', .int .i64 m.min, .int .i64 m.speed, .int .i64 m.mode, .int .i64 m.acc, .bool m.whole] 69)).cell? ⟨w6.heap.size, 0, none⟩ = some (.int .i64 m.kind) ∧ (w6.alloc (.cells #[.int .i64 m.kind, .int .i64 m.fro, .int .i64 m.to, .int .i64 m.seq, .int .i64 m.time, .int .i64 m.aseq, .int .i64 m.aend, .slice E m.prof.length f, .slice E' m.links.length f', .int .i64 m.min, .int .i64 m.speed, .int .i64 m.mode, .int .i64 m.acc, .bool m.whole] 69)).cell? ⟨w6.heap.size, 1, none⟩ = some (.int .i64 m.fro) ∧ (w6.alloc (.cells #[.int .i64 m.kind, .int .i64 m.fro, .int .i64 m.to, .int .i64 m.seq, .int .i64 m.time, .int .i64 m.aseq, .int .i64 m.aend, .slice E m.prof.length f, .slice E' m.links.length f', .int .i64 m.min, .int .i64 m.speed, .int .i64 m.mode, .int .i64 m.acc, .bool m.whole] 69)).cell? ⟨w6.heap.size, 2, none⟩ = some (.int .i64 m.to) ∧ (w6.alloc (.cells #[.int .i64 m.kind, .int .i64 m.fro, .int .i64 m.to, .int .i64 m.seq, .int .i64 m.time, .int .i64 m.aseq, .int .i64 m.aend, .slice E m.prof.length f, .slice E' m.links.length f', .int .i64 m.min, .int .i64 m.speed, .int .i64 m.mode, .int .i64 m.acc, .bool m.whole] 69)).cell? ⟨w6.heap.size, 3, none⟩ = some (.int .i64 m.seq) ∧ (w6.alloc (.cells #[.int .i64 m.kind, .int .i64 m.fro, .int .i64 m.to, .int .i64 m.seq, .int .i64 m.time, .int .i64 m.aseq, .int .i64 m.aend, .slice E m.prof.length f, .slice E' m.links.length f', .int .i64 m.min, .int .i64 m.speed, .int .i64 m.mode, .int .i64 m.acc, .bool m.whole] 69)).cell? ⟨w6.heap.size, 4, none⟩ = some (.int .i64 m.time) ∧ (w6.alloc (.cells #[.int .i64 m.kind, .int .i64 m.fro, .int .i64 m.to, .int .i64 m.seq, .int .i64 m.time, .int .i64 m.aseq, .int .i64 m.aend, .slice E m.prof.length f, .slice E' m.links.length f', .int .i64 m.min, .int .i64 m.speed, .int .i64 m.mode, .int .i64 m.acc, .bool m.whole] 69)).cell? ⟨w6.heap.size, 5, none⟩ = some (.int .i64 m.aseq) ∧ (w6.alloc (.cells #[.int .i64 m.kind, .int .i64 m.fro, .int .i64 m.to, .int .i64 m.seq, .int .i64 m.time, .int .i64 m.aseq, .int .i64 m.aend, .slice E m.prof.length f, .slice E' m.links.length f', .int .i64 m.min, .int .i64 m.speed, .int .i64 m.mode, .int .i64 m.acc, .bool m.whole] 69)).cell? ⟨w6.heap.size, 6, none⟩ = some (.int .i64 m.aend) ∧ (w6.alloc (.cells #[.int .i64 m.kind, .int .i64 m.fro, .int .i64 m.to, .int .i64 m.seq, .int .i64 m.time, .int .i64 m.aseq, .int .i64 m.aend, .slice E m.prof.length f, .slice E' m.links.length f', .int .i64 m.min, .int .i64 m.speed, .int .i64 m.mode, .int .i64 m.acc, .bool m.whole] 69)).cell? ⟨w6.heap.size, 7, none⟩ = some (.slice E m.prof.length f) ∧ (w6.alloc (.cells #[.int .i64 m.kind, .int .i64 m.fro, .int .i64 m.to, .int .i64 m.seq, .int .i64 m.time, .int .i64 m.aseq, .int .i64 m.aend, .slice E m.prof.length f, .slice E' m.links.length f', .int .i64 m.min, .int .i64 m.speed, .int .i64 m.mode, .int .i64 m.acc, .bool m.whole] 69)).cell? ⟨w6.heap.size, 8, none⟩ = some (.slice E' m.links.length f') ∧ (w6.alloc (.cells #[.int .i64 m.kind, .int .i64 m.fro, .int .i64 m.to, .int .i64 m.seq, .int .i64 m.time, .int .i64 m.aseq, .int .i64 m.aend, .slice E m.prof.length f, .slice E' m.links.length f', .int .i64 m.min, .int .i64 m.speed, .int .i64 m.mode, .int .i64 m.acc, .bool m.whole] 69)).cell? ⟨w6.heap.size, 9, none⟩ = some (.int .i64 m.min) ∧ (w6.alloc (.cells #[.int .i64 m.kind, .int .i64 m.fro, .int .i64 m.to, .int .i64 m.seq, .int .i64 m.time, .int .i64 m.aseq, .int .i64 m.aend, .slice E m.prof.length f, .slice E' m.links.length f', .int .i64 m.min, .int .i64 m.speed, .int .i64 m.mode, .int .i64 m.acc, .bool m.whole] 69)).cell? ⟨w6.heap.size, 10, none⟩ = some (.int .i64 m.speed) ∧ (w6.alloc (.cells #[.int .i64 m.kind, .int .i64 m.fro, .int .i64 m.to, .int .i64 m.seq, .int .i64 m.time, .int .i64 m.aseq, .int .i64 m.aend, .slice E m.prof.length f, .slice E' m.links.length f', .int .i64 m.min, .int .i64 m.speed, .int .i64 m.mode, .int .i64 m.acc, .bool m.whole] 69)).cell? ⟨w6.heap.size, 11, none⟩ = some (.int .i64 m.mode) ∧ (w6.alloc (.cells #[.int .i64 m.kind, .int .i64 m.fro, .int .i64 m.to, .int .i64 m.seq, .int .i64 m.time, .int .i64 m.aseq, .int .i64 m.aend, .slice E m.prof.length f, .slice E' m.links.length f', .int .i64 m.min, .int .i64 m.speed, .int .i64 m.mode, .int .i64 m.acc, .bool m.whole] 69)).cell? ⟨w6.heap.size, 12, none⟩ = some (.int .i64 m.acc) ∧ (w6.alloc (.cells #[.int .i64 m.kind, .int .i64 m.fro, .int .i64 m.to, .int .i64 m.seq, .int .i64 m.time, .int .i64 m.aseq, .int .i64 m.aend, .slice E m.prof.length f, .slice E' m.links.length f', .int .i64 m.min, .int .i64 m.speed, .int .i64 m.mode, .int .i64 m.acc, .bool m.whole] 69)).cell? ⟨w6.heap.size, 13, none⟩ = some (.bool m.whole) ∧ Inv3 w w.heap.size (w.heap.size + 1) w6.heap.size m n A c A' c' B d B' d' E f E' f' (w6.alloc (.cells #[.int .i64 m.kind, .int .i64 m.fro, .int .i64 m.to, .int .i64 m.seq, .int .i64 m.time, .int .i64 m.aseq, .int .i64 m.aend, .slice E m.prof.length f, .slice E' m.links.length f', .int .i64 m.min, .int .i64 m.speed, .int .i64 m.mode, .int .i64 m.acc, .bool m.whole] 69)) := Inv3.cells ⟨hI6.step hb7, Blk.new _ _ _ _ rfl, hk1.now hb7, hk2.now hb7⟩
  have hz7 : (w6.alloc (.cells #[.int .i64 m.kind, .int .i64 m.fro, .int .i64 m.to, .int .i64 m.seq, .int .i64 m.time, .int .i64 m.aseq, .int .i64 m.aend, .slice E m.prof.length f, .slice E' m.links.length f', .int .i64 m.min, .int .i64 m.speed, .int .i64 m.mode, .int .i64 m.acc, .bool m.whole] 69)).heap.size = w6.heap.size + 1 := World.size_alloc _ _
  clear hI6 hb7 hk1 hk2
  have hbe : (encM n == tm) = false := by
    rw [beq_eq_false_iff_ne]
    exact HE.out
  go_upto_region 5 with (fail)
  generalize (w6.alloc (.cells #[.int .i64 m.kind, .int .i64 m.fro, .int .i64 m.to, .int .i64 m.seq, .int .i64 m.time, .int .i64 m.aseq, .int .i64 m.aend, .slice E m.prof.length f, .slice E' m.links.length f', .int .i64 m.min, .int .i64 m.speed, .int .i64 m.mode, .int .i64 m.acc, .bool m.whole] 69)) = w7 at *
  generalize w6.heap.size = b3 at *
  go_region_held3 (fun w' => w'.cell? ⟨w.heap.size, 0, none⟩ = some (.int .i64 m.kind) ∧ w'.cell? ⟨w.heap.size, 1, none⟩ = some (.int .i64 m.fro) ∧ w'.cell? ⟨w.heap.size, 2, none⟩ = some (.int .i64 m.to) ∧ w'.cell? ⟨w.heap.size, 3, none⟩ = some (.int .i64 m.seq) ∧ w'.cell? ⟨w.heap.size, 4, none⟩ = some (.int .i64 m.time) ∧ w'.cell? ⟨w.heap.size, 5, none⟩ = some (.int .i64 m.aseq) ∧ w'.cell? ⟨w.heap.size, 6, none⟩ = some (.int .i64 m.aend) ∧ w'.cell? ⟨w.heap.size, 7, none⟩ = some (.slice A m.prof.length c) ∧ w'.cell? ⟨w.heap.size, 8, none⟩ = some (.slice A' m.links.length c') ∧ w'.cell? ⟨w.heap.size, 9, none⟩ = some (.int .i64 m.min) ∧ w'.cell? ⟨w.heap.size, 10, none⟩ = some (.int .i64 m.speed) ∧ w'.cell? ⟨w.heap.size, 11, none⟩ = some (.int .i64 m.mode) ∧ w'.cell? ⟨w.heap.size, 12, none⟩ = some (.int .i64 m.acc) ∧ w'.cell? ⟨w.heap.size, 13, none⟩ = some (.bool m.whole) ∧ w'.cell? ⟨w.heap.size + 1, 0, none⟩ = some (.int .i64 n.kind) ∧ w'.cell? ⟨w.heap.size + 1, 1, none⟩ = some (.int .i64 n.fro) ∧ w'.cell? ⟨w.heap.size + 1, 2, none⟩ = some (.int .i64 n.to) ∧ w'.cell? ⟨w.heap.size + 1, 3, none⟩ = some (.int .i64 n.seq) ∧ w'.cell? ⟨w.heap.size + 1, 4, none⟩ = some (.int .i64 n.time) ∧ w'.cell? ⟨w.heap.size + 1, 5, none⟩ = some (.int .i64 n.aseq) ∧ w'.cell? ⟨w.heap.size + 1, 6, none⟩ = some (.int .i64 n.aend) ∧ w'.cell? ⟨w.heap.size + 1, 7, none⟩ = some (.slice B n.prof.length d) ∧ w'.cell? ⟨w.heap.size + 1, 8, none⟩ = some (.slice B' n.links.length d') ∧ w'.cell? ⟨w.heap.size + 1, 9, none⟩ = some (.int .i64 n.min) ∧ w'.cell? ⟨w.heap.size + 1, 10, none⟩ = some (.int .i64 n.speed) ∧ w'.cell? ⟨w.heap.size + 1, 11, none⟩ = some (.int .i64 n.mode) ∧ w'.cell? ⟨w.heap.size + 1, 12, none⟩ = some (.int .i64 n.acc) ∧ w'.cell? ⟨w.heap.size + 1, 13, none⟩ = some (.bool n.whole) ∧ w'.cell? ⟨b3, 0, none⟩ = some (.int .i64 m.kind) ∧ w'.cell? ⟨b3, 1, none⟩ = some (.int .i64 m.fro) ∧ w'.cell? ⟨b3, 2, none⟩ = some (.int .i64 m.to) ∧ w'.cell? ⟨b3, 3, none⟩ = some (.int .i64 m.seq) ∧ w'.cell? ⟨b3, 4, none⟩ = some (.int .i64 m.time) ∧ w'.cell? ⟨b3, 5, none⟩ = some (.int .i64 m.aseq) ∧ w'.cell? ⟨b3, 6, none⟩ = some (.int .i64 m.aend) ∧ w'.cell? ⟨b3, 7, none⟩ = some (.slice E m.prof.length f) ∧ w'.cell? ⟨b3, 8, none⟩ = some (.slice E' m.links.length f') ∧ w'.cell? ⟨b3, 9, none⟩ = some (.int .i64 m.min) ∧ w'.cell? ⟨b3, 10, none⟩ = some (.int .i64 m.speed) ∧ w'.cell? ⟨b3, 11, none⟩ = some (.int .i64 m.mode) ∧ w'.cell? ⟨b3, 12, none⟩ = some (.int .i64 m.acc) ∧ w'.cell? ⟨b3, 13, none⟩ = some (.bool m.whole) ∧ Inv3 w w.heap.size (w.heap.size + 1) b3 m n A c A' c' B d B' d' E f E' f' w')
    (first | assumption | exact held3m_drew ‹_› | (refine held3m_step ?_ ‹_›; assumption))
    (first
      | (go_at_call 64; (with_reducible refine (rSame_msg m n A c A' c' B d B' d' _ lm lm' (inv3_of (by assumption)).two.m1 (inv3_of (by assumption)).two.m2 ln ln' (inv3_of (by assumption)).two.n1 (inv3_of (by assumption)).two.n2).mono ?_); rw [HS.out]; rintro e wq ⟨rfl, hq⟩)
      | (go_at_call 64; (with_reducible refine (rSame_msg m m E f E' f' A c A' c' _ lm lm' (inv3_of (by assumption)).k1 (inv3_of (by assumption)).k2 lm lm' (inv3_of (by assumption)).two.m1 (inv3_of (by assumption)).two.m2).mono ?_); rw [same_mm]; rintro e wq ⟨rfl, hq⟩)
      | (go_at_call 61; refine (encode_any n B d B' d' _ on (inv3_of (by assumption)).two.n1 (inv3_of (by assumption)).two.n2).mono ?_; rintro e wq ⟨rfl, hq⟩)
      | (go_at_call 58; refine (alive37 _).mono ?_; rintro e wq ⟨rfl, hq⟩))
  all_goals (go_wp2_with fail)
  all_goals go_ret
  all_goals (refine ⟨?_, (inv3_of (by assumption)).two.below⟩)
  all_goals (first | rfl | simp)
theorem messageReturns_walk (m : Msg) (A : Option Addr) (c : Nat) (A' : Option Addr) (c' : Nat) (n : Msg) (B : Option Addr) (d : Nat) (B' : Option Addr) (d' : Nat) (w : World) (om : m.Ok) (hm : RdS cSeg w w.heap.size A m.prof) (hm' : RdS cLnk w w.heap.size A' m.links) (on : n.Ok) (hn : RdS cSeg w w.heap.size B n.prof) (hn' : RdS cLnk w w.heap.size B' n.links) :
    Calls Try.prog 17 #[.agg #[.int .i64 m.kind, .int .i64 m.fro, .int .i64 m.to, .int .i64 m.seq, .int .i64 m.time, .int .i64 m.aseq, .int .i64 m.aend, .slice A m.prof.length c, .slice A' m.links.length c', .int .i64 m.min, .int .i64 m.speed, .int .i64 m.mode, .int .i64 m.acc, .bool m.whole], .agg #[.int .i64 n.kind, .int .i64 n.fro, .int .i64 n.to, .int .i64 n.seq, .int .i64 n.time, .int .i64 n.aseq, .int .i64 n.aend, .slice B n.prof.length d, .slice B' n.links.length d', .int .i64 n.min, .int .i64 n.speed, .int .i64 n.mode, .int .i64 n.acc, .bool n.whole]] w fun e w' => e = .returned (.bool true) ∧ Below w.heap.size w w' := by
  cases h0 : fewB m
  · exact messageReturns_no0 m n A c A' c' B d B' d' w om hm hm' on hn hn' h0
  · cases h1 : fewB n
    · exact messageReturns_no1 m n A c A' c' B d B' d' w om hm hm' on hn hn' h0 h1
    · cases h2 : validB m
      · exact messageReturns_no2 m n A c A' c' B d B' d' w om hm hm' on hn hn' h0 h1 h2
      · cases h3 : validB n
        · exact messageReturns_no3 m n A c A' c' B d B' d' w om hm hm' on hn hn' h0 h1 h2 h3
        · by_cases hmn : m = n
          · exact messageReturns_same m n A c A' c' B d B' d' w om hm hm' on hn hn' h0 h1 h2 h3 hmn
          · exact messageReturns_other m n A c A' c' B d B' d' w om hm hm' on hn hn' h0 h1 h2 h3 hmn
end Go.Proofs.Ytlpkkcodmoklaaa
