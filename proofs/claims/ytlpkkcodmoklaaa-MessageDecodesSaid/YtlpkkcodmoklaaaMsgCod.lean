/- How segments, links and messages lie in memory. -/
import Derived.Test.YtlpkkcodmoklaaaMsgPlain
import Derived.Test.YtlpkkcodmoklaaaCod
import Derived.Test.YtlpkkcodmoklaaaRows
namespace Go.Proofs.Ytlpkkcodmoklaaa
open Go.RowKit
def Seg.cells (s : Seg) : List Value := [.int .i64 s.1, .int .i64 s.2.1, .int .i64 s.2.2.1, .int .i64 s.2.2.2]
def Lnk.cells (x : Lnk) : List Value := [.int .i64 x.1, .int .i64 x.2]
def Seg.ok (s : Seg) : Prop := I64n s.1 ∧ I64n s.2.1 ∧ I64n s.2.2.1 ∧ I64n s.2.2.2
def Lnk.ok (x : Lnk) : Prop := I64n x.1 ∧ I64n x.2
/-- A datum that lies in its cells alone. -/
def cF {α : Type} (n : Nat) (cells : α → List Value) (ok : α → Prop) (h : ∀ a, (cells a).length = n) : Cod α where
  size := n
  rd := fun _ _ cs a => cs = cells a ∧ ok a
  len := fun ⟨e, _⟩ => by rw [e, h]
  keep := fun h _ => h
  more := fun h _ => h
def cSeg : Cod Seg := cF 4 Seg.cells Seg.ok fun _ => rfl
def cLnk : Cod Lnk := cF 2 Lnk.cells Lnk.ok fun _ => rfl
theorem add_lit' (b o k : Nat) : (⟨b, o, none⟩ : Addr).add k = ⟨b, o + k, none⟩ := by
  unfold Addr.add
  split
  · rename_i h0; subst h0; rfl
  · rfl
/-- The element of a row whose elements lie in their cells alone. -/
theorem RdS.at {α : Type} {n : Nat} {cells : α → List Value} {ok : α → Prop} {hn : ∀ a, (cells a).length = n} {w : World} {B : Nat} {A : Option Addr} {l : List α} (h : RdS (cF n cells ok hn) w B A l) {i : Nat} (hi : i < l.length) :
    ∃ b off, A = some ⟨b, off, none⟩ ∧ b < B ∧ ok l[i] ∧ ∀ (j : Nat) (u : Value), (cells l[i])[j]? = some u → w.cell? ⟨b, off + i * n + j, none⟩ = some u := by
  obtain ⟨b, off, h1, h2, h3⟩ := h (by omega)
  obtain ⟨ys, ⟨rfl, h5⟩, h6⟩ := h3 i l[i] (List.getElem?_eq_getElem hi)
  exact ⟨b, off, h1, h2, h5, h6⟩
theorem seg_at {w : World} {B : Nat} {A : Option Addr} {l : List Seg} (h : RdS cSeg w B A l) {i : Nat} (hi : i < l.length) :
    ∃ b off, A = some ⟨b, off, none⟩ ∧ b < B ∧ Seg.ok l[i] ∧ w.cell? ⟨b, off + i * 4, none⟩ = some (.int .i64 l[i].1) ∧ w.cell? ⟨b, off + i * 4 + 1, none⟩ = some (.int .i64 l[i].2.1) ∧ w.cell? ⟨b, off + i * 4 + 2, none⟩ = some (.int .i64 l[i].2.2.1) ∧ w.cell? ⟨b, off + i * 4 + 3, none⟩ = some (.int .i64 l[i].2.2.2) := by
  obtain ⟨b, off, h1, h2, h3, h4⟩ := RdS.at h hi
  exact ⟨b, off, h1, h2, h3, h4 0 _ rfl, h4 1 _ rfl, h4 2 _ rfl, h4 3 _ rfl⟩
theorem lnk_at {w : World} {B : Nat} {A : Option Addr} {l : List Lnk} (h : RdS cLnk w B A l) {i : Nat} (hi : i < l.length) :
    ∃ b off, A = some ⟨b, off, none⟩ ∧ b < B ∧ Lnk.ok l[i] ∧ w.cell? ⟨b, off + i * 2, none⟩ = some (.int .i64 l[i].1) ∧ w.cell? ⟨b, off + i * 2 + 1, none⟩ = some (.int .i64 l[i].2) := by
  obtain ⟨b, off, h1, h2, h3, h4⟩ := RdS.at h hi
  exact ⟨b, off, h1, h2, h3, h4 0 _ rfl, h4 1 _ rfl⟩
/-- What reads by one codec reads by another. -/
theorem opens_to {α β : Type} {P : Program} {t : TypeId} {c : Cod α} {d : Cod β} (h : Opens P t c) (hs : c.size = d.size) (hc : ∀ w B cs a, c.rd w B cs a → ∃ b, d.rd w B cs b) : Opens P t d :=
  ⟨h.size.trans hs, fun hx => by obtain ⟨a, ha⟩ := h.opens hx; exact hc _ _ _ _ ha⟩
structure Msg.Ok (m : Msg) : Prop where
  kind : I64n m.kind
  fro : I64n m.fro
  to : I64n m.to
  seq : I64n m.seq
  time : I64n m.time
  aseq : I64n m.aseq
  aend : I64n m.aend
  min : I64n m.min
  speed : I64n m.speed
  mode : I64n m.mode
  acc : I64n m.acc
  prof : m.prof.length ≤ maxLen
  links : m.links.length ≤ maxLen
def cMsg : Cod Msg where
  size := 14
  rd := fun w B cs m => ∃ A c A' c', cs = [.int .i64 m.kind, .int .i64 m.fro, .int .i64 m.to, .int .i64 m.seq, .int .i64 m.time, .int .i64 m.aseq, .int .i64 m.aend, .slice A m.prof.length c, .slice A' m.links.length c', .int .i64 m.min, .int .i64 m.speed, .int .i64 m.mode, .int .i64 m.acc, .bool m.whole] ∧ m.Ok ∧ RdS cSeg w B A m.prof ∧ RdS cLnk w B A' m.links
  len := fun ⟨_, _, _, _, h, _⟩ => by rw [h]; rfl
  keep := fun ⟨A, c, A', c', h, h0, h1, h2⟩ hk => ⟨A, c, A', c', h, h0, h1.keep hk, h2.keep hk⟩
  more := fun ⟨A, c, A', c', h, h0, h1, h2⟩ hB => ⟨A, c, A', c', h, h0, h1.more hB, h2.more hB⟩
theorem opens_seg : Opens Try.prog 100 cSeg := by
  refine opens_to (c := cP cI (cP cI (cP cI (cP cI cN)))) (opens_R Try.underlying100 (by kernel_rfl) (fields_cons (by rfl) (opens_I Try.underlying3 (by kernel_rfl)) (fields_cons (by rfl) (opens_I Try.underlying3 (by kernel_rfl)) (fields_cons (by rfl) (opens_I Try.underlying3 (by kernel_rfl)) (fields_cons (by rfl) (opens_I Try.underlying3 (by kernel_rfl)) fields_nil))))) rfl ?_
  rintro w B cs ⟨a, b, c, d, _⟩ ⟨_, _, rfl, ⟨rfl, ha⟩, _, _, rfl, ⟨rfl, hb⟩, _, _, rfl, ⟨rfl, hc⟩, _, _, rfl, ⟨rfl, hd⟩, rfl⟩
  exact ⟨(a, b, c, d), rfl, ha, hb, hc, hd⟩
theorem opens_lnk : Opens Try.prog 77 cLnk := by
  refine opens_to (c := cP cI (cP cI cN)) (opens_R Try.underlying77 (by kernel_rfl) (fields_cons (by rfl) (opens_I Try.underlying3 (by kernel_rfl)) (fields_cons (by rfl) (opens_I Try.underlying3 (by kernel_rfl)) fields_nil))) rfl ?_
  rintro w B cs ⟨a, b, _⟩ ⟨_, _, rfl, ⟨rfl, ha⟩, _, _, rfl, ⟨rfl, hb⟩, rfl⟩
  exact ⟨(a, b), rfl, ha, hb⟩
/-! ### Structs compared -/
def segEq (x y : Seg) : Bool := decide (x = y)
def lnkEq (x y : Lnk) : Bool := decide (x = y)
def repEq (a b c d : Int) (e : Bool) (a' b' c' d' : Int) (e' : Bool) : Bool := decide (a = a' ∧ b = b' ∧ c = c' ∧ d = d' ∧ e = e')
theorem fields_of {P : Program} {t : TypeId} {fs : Array Field} (h : P.underlying t = some (.struct fs)) : P.fieldsOf t = fs := by unfold Program.fieldsOf; rw [h]
theorem stood100 : Try.prog.stoodInHeld 100 = false := by kernel_rfl
theorem stood77 : Try.prog.stoodInHeld 77 = false := by kernel_rfl
theorem stood67 : Try.prog.stoodInHeld 67 = false := by kernel_rfl
theorem eq_seg (w : World) (d : Nat) (a b c e a' b' c' e' : Int) : (Op.equalIn (d + 2) 100 (.agg #[.int .i64 a, .int .i64 b, .int .i64 c, .int .i64 e]) (.agg #[.int .i64 a', .int .i64 b', .int .i64 c', .int .i64 e'])).run Try.prog w = .ok (segEq (a, b, c, e) (a', b', c', e')) w := by
  have h3 := Try.underlying3
  have hf := fields_of Try.underlying100
  rw [run_equalIn_struct w (d + 1) 100 _ _ (by rw [hf, Try.underlying100]) stood100, hf]
  simp [go_sem, segEq]
  by_cases h1 : a = a' <;> by_cases h2 : b = b' <;> by_cases h3 : c = c' <;> by_cases h4 : e = e' <;> simp [h1, h2, h3, h4]
theorem eq_lnk (w : World) (d : Nat) (a b a' b' : Int) : (Op.equalIn (d + 2) 77 (.agg #[.int .i64 a, .int .i64 b]) (.agg #[.int .i64 a', .int .i64 b'])).run Try.prog w = .ok (lnkEq (a, b) (a', b')) w := by
  have h3 := Try.underlying3
  have hf := fields_of Try.underlying77
  rw [run_equalIn_struct w (d + 1) 77 _ _ (by rw [hf, Try.underlying77]) stood77, hf]
  simp [go_sem, lnkEq]
  by_cases h1 : a = a' <;> by_cases h2 : b = b' <;> simp [h1, h2]
theorem eq_rep (w : World) (d : Nat) (a b c e a' b' c' e' : Int) (f f' : Bool) : (Op.equalIn (d + 2) 67 (.agg #[.int .i64 a, .int .i64 b, .int .i64 c, .int .i64 e, .bool f]) (.agg #[.int .i64 a', .int .i64 b', .int .i64 c', .int .i64 e', .bool f'])).run Try.prog w = .ok (repEq a b c e f a' b' c' e' f') w := by
  have h3 := Try.underlying3
  have h4 := Try.underlying4
  have hf := fields_of Try.underlying67
  rw [run_equalIn_struct w (d + 1) 67 _ _ (by rw [hf, Try.underlying67]) stood67, hf]
  simp [go_sem, repEq]
  by_cases h1 : a = a' <;> by_cases h2 : b = b' <;> by_cases h3 : c = c' <;> by_cases h4 : e = e' <;> by_cases h5 : f = f' <;> simp [h1, h2, h3, h4, h5]
end Go.Proofs.Ytlpkkcodmoklaaa
