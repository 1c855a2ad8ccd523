/- How plain data lie in memory: codecs, and the arguments of a law opened to plain data. Over any program. -/
import Derived.Test.YtlpkkcodmoklaaaOwnStep
import Derived.OpenShut
import Derived.DataReads
import Derived.ChangeSlices
import Derived.ChangeArms
import Derived.Below
import Derived.Lib.SmallJoins
namespace Go.Proofs.Ytlpkkcodmoklaaa
open Go.Joins Go.ChangeShapes Go.WideShapes Go.RowKit
/-- How a datum lies in cells: their number, and when cells read as it, everything that it leads to below block B. -/
structure Cod (α : Type) where
  size : Nat
  rd : World → Nat → List Value → α → Prop
  len : ∀ {w B cs a}, rd w B cs a → cs.length = size
  keep : ∀ {w w' : World} {B cs a}, rd w B cs a → (∀ p : Addr, p.block < B → w'.cell? p = w.cell? p) → rd w' B cs a
  more : ∀ {w : World} {B B' : Nat} {cs a}, rd w B cs a → B ≤ B' → rd w B' cs a
theorem Cod.below {α : Type} (c : Cod α) {w w' : World} {B : Nat} {cs : List Value} {a : α} (h : c.rd w B cs a) (hb : Below B w w') : c.rd w' B cs a := c.keep h fun _ hp => hb.cell hp
theorem Cod.now {α : Type} (c : Cod α) {w w' : World} {cs : List Value} {a : α} (h : c.rd w w.heap.size cs a) (hb : Below w.heap.size w w') : c.rd w' w'.heap.size cs a := c.more (c.below h hb) hb.size
def I64n (n : Int) : Prop := -9223372036854775808 ≤ n ∧ n ≤ 9223372036854775807
def cI : Cod Int where
  size := 1
  rd := fun _ _ cs n => cs = [.int .i64 n] ∧ I64n n
  len := fun h => by rw [h.1]; rfl
  keep := fun h _ => h
  more := fun h _ => h
def cU : Cod Nat where
  size := 1
  rd := fun _ _ cs n => cs = [.int .u64 n] ∧ n < 18446744073709551616
  len := fun h => by rw [h.1]; rfl
  keep := fun h _ => h
  more := fun h _ => h
def cB : Cod Bool where
  size := 1
  rd := fun _ _ cs b => cs = [.bool b]
  len := fun h => by rw [h]; rfl
  keep := fun h _ => h
  more := fun h _ => h
def cS : Cod (List UInt8) where
  size := 1
  rd := fun _ _ cs l => cs = [.string (bs l)] ∧ l.length ≤ maxLen
  len := fun h => by rw [h.1]; rfl
  keep := fun h _ => h
  more := fun h _ => h
/-- The row of a slice: where it begins, and that each element reads. -/
def RdS {α : Type} (c : Cod α) (w : World) (B : Nat) (A : Option Addr) (l : List α) : Prop :=
  0 < l.length → ∃ b off, A = some ⟨b, off, none⟩ ∧ b < B ∧ ∀ (i : Nat) (x : α), l[i]? = some x → ∃ ys, c.rd w B ys x ∧ ∀ (j : Nat) (u : Value), ys[j]? = some u → w.cell? ⟨b, off + i * c.size + j, none⟩ = some u
theorem RdS.keep {α : Type} {c : Cod α} {w w' : World} {B : Nat} {A : Option Addr} {l : List α} (h : RdS c w B A l) (hk : ∀ p : Addr, p.block < B → w'.cell? p = w.cell? p) : RdS c w' B A l := by
  intro hl
  obtain ⟨b, off, h1, h2, h3⟩ := h hl
  refine ⟨b, off, h1, h2, fun i x hx => ?_⟩
  obtain ⟨ys, h4, h5⟩ := h3 i x hx
  exact ⟨ys, c.keep h4 hk, fun j u hu => (hk _ h2).trans (h5 j u hu)⟩
theorem RdS.more {α : Type} {c : Cod α} {w : World} {B B' : Nat} {A : Option Addr} {l : List α} (h : RdS c w B A l) (hB : B ≤ B') : RdS c w B' A l := by
  intro hl
  obtain ⟨b, off, h1, h2, h3⟩ := h hl
  refine ⟨b, off, h1, by omega, fun i x hx => ?_⟩
  obtain ⟨ys, h4, h5⟩ := h3 i x hx
  exact ⟨ys, c.more h4 hB, h5⟩
theorem RdS.below {α : Type} {c : Cod α} {w w' : World} {B : Nat} {A : Option Addr} {l : List α} (h : RdS c w B A l) (hb : Below B w w') : RdS c w' B A l := h.keep fun _ hp => hb.cell hp
theorem RdS.now {α : Type} {c : Cod α} {w w' : World} {A : Option Addr} {l : List α} (h : RdS c w w.heap.size A l) (hb : Below w.heap.size w w') : RdS c w' w'.heap.size A l := (h.below hb).more hb.size
theorem RdS.nil {α : Type} (c : Cod α) (w : World) (B : Nat) (A : Option Addr) : RdS c w B A [] := fun h => absurd h (by simp)
def cL {α : Type} (c : Cod α) : Cod (List α) where
  size := 1
  rd := fun w B cs l => ∃ A cap, cs = [.slice A l.length cap] ∧ l.length ≤ maxLen ∧ RdS c w B A l
  len := fun ⟨_, _, h, _⟩ => by rw [h]; rfl
  keep := fun ⟨A, cap, h, hm, hr⟩ hk => ⟨A, cap, h, hm, hr.keep hk⟩
  more := fun ⟨A, cap, h, hm, hr⟩ hB => ⟨A, cap, h, hm, hr.more hB⟩
def cN : Cod Unit where
  size := 0
  rd := fun _ _ cs _ => cs = []
  len := fun h => by rw [h]; rfl
  keep := fun h _ => h
  more := fun h _ => h
def cP {α β : Type} (c : Cod α) (d : Cod β) : Cod (α × β) where
  size := c.size + d.size
  rd := fun w B cs x => ∃ xs ys, cs = xs ++ ys ∧ c.rd w B xs x.1 ∧ d.rd w B ys x.2
  len := fun ⟨_, _, h, h1, h2⟩ => by rw [h, List.length_append, c.len h1, d.len h2]
  keep := fun ⟨xs, ys, h, h1, h2⟩ hk => ⟨xs, ys, h, c.keep h1 hk, d.keep h2 hk⟩
  more := fun ⟨xs, ys, h, h1, h2⟩ hB => ⟨xs, ys, h, c.more h1 hB, d.more h2 hB⟩
def cM {α β : Type} (c : Cod α) (f : α → β) : Cod β where
  size := c.size
  rd := fun w B cs b => ∃ a, b = f a ∧ c.rd w B cs a
  len := fun ⟨_, _, h⟩ => c.len h
  keep := fun ⟨a, h, h1⟩ hk => ⟨a, h, c.keep h1 hk⟩
  more := fun ⟨a, h, h1⟩ hB => ⟨a, h, c.more h1 hB⟩
/-- Whatever reads as data of type t reads by the codec. -/
structure Opens {α : Type} (P : Program) (t : TypeId) (c : Cod α) : Prop where
  size : P.cellsOf t = c.size
  opens : ∀ {H : Type} {enc : TypeId × Value → H} {w : World} {fuel : Nat} {cs : List Value} {x : DataW H × List MemPlace}, DataW.trod enc P w 0 (fun _ => true) true fuel t cs = some x → ∃ a, c.rd w w.heap.size cs a
theorem i64n_of {n : Int} (h : (Lit.int .i64 n).wf = true) : I64n n := bounds_i64 h
theorem u64n_of {n : Int} (h : (Lit.int .u64 n).wf = true) : 0 ≤ n ∧ n < 18446744073709551616 := by
  simp [Lit.wf, IntKind.min, IntKind.max, IntKind.signed, IntKind.bits] at h
  omega
section
variable {P : Program} {t e : TypeId}
theorem opens_I (ht : P.underlying t = some (.int .i64)) (hc : P.cellsOf t = 1) : Opens P t cI :=
  ⟨hc, fun h => by obtain ⟨n, rfl, _, hw⟩ := DataW.trod_int ht h; exact ⟨n, rfl, i64n_of hw⟩⟩
theorem opens_U (ht : P.underlying t = some (.int .u64)) (hc : P.cellsOf t = 1) : Opens P t cU :=
  ⟨hc, fun h => by
    obtain ⟨n, rfl, _, hw⟩ := DataW.trod_int ht h
    have hb := u64n_of hw
    obtain ⟨k, rfl⟩ := Int.eq_ofNat_of_zero_le hb.1
    exact ⟨k, rfl, by omega⟩⟩
theorem opens_B (ht : P.underlying t = some .bool) (hc : P.cellsOf t = 1) : Opens P t cB :=
  ⟨hc, fun h => by obtain ⟨b, rfl, _⟩ := DataW.trod_bool ht h; exact ⟨b, rfl⟩⟩
theorem opens_S (ht : P.underlying t = some .string) (hc : P.cellsOf t = 1) : Opens P t cS :=
  ⟨hc, fun h => by
    obtain ⟨s, rfl, _, hw⟩ := DataW.trod_string ht h
    obtain ⟨l, rfl⟩ := bs_of s
    exact ⟨l, rfl, by rw [bs_size] at hw; exact hw⟩⟩
theorem cells?_get {w : World} {base n : Nat} {a : Addr} {cs : List Value} (h : w.cells? base a n = some cs) : cs.length = n ∧ ∀ (j : Nat) (u : Value), cs[j]? = some u → w.cell? (a.add j) = some u := by
  obtain ⟨_, h2, h3⟩ := World.cells?_some h
  exact ⟨h2, fun j u hu => (h3 j (by have := (List.getElem?_eq_some_iff.1 hu).1; omega)).trans hu⟩
theorem opens_L {α : Type} {c : Cod α} (ht : P.underlying t = some (.slice e)) (hc : P.cellsOf t = 1) (he : Opens P e c) (hpos : 0 < c.size) : Opens P t (cL c) := by
  refine ⟨hc, fun {H enc w fuel cs x} h => ?_⟩
  rcases DataW.trod_slice ht h with ⟨rfl, _⟩ | ⟨a, len, cap, elems, rest, n, _, rfl, _, hb, hl, hm, hlen, hel, _, _⟩
  · exact ⟨[], none, 0, rfl, by simp, RdS.nil _ _ _ _⟩
  · have key : ∀ i, i < len → ∃ ys x, w.cells? 0 (a.add (i * c.size)) c.size = some ys ∧ c.rd w w.heap.size ys x := by
      intro i hi
      have h1 := hel i hi
      rw [he.size] at h1
      have h2 : i < elems.length := by omega
      rw [List.getElem?_eq_getElem h2, Option.bind_eq_some_iff] at h1
      obtain ⟨ys, h3, h4⟩ := h1
      obtain ⟨x, hx⟩ := he.opens h4
      exact ⟨ys, x, h3, hx⟩
    have : ∃ l : List α, l.length = len ∧ ∀ i x, l[i]? = some x → ∃ ys, w.cells? 0 (a.add (i * c.size)) c.size = some ys ∧ c.rd w w.heap.size ys x := by
      have gen : ∀ m, m ≤ len → ∃ l : List α, l.length = m ∧ ∀ i x, l[i]? = some x → ∃ ys, w.cells? 0 (a.add (i * c.size)) c.size = some ys ∧ c.rd w w.heap.size ys x := by
       intro m
       induction m with
       | zero => exact fun _ => ⟨[], rfl, fun i x hx => by simp at hx⟩
       | succ m ih =>
        intro hm
        obtain ⟨l, hl, hx⟩ := ih (by omega)
        obtain ⟨ys, x, h1, h2⟩ := key m (by omega)
        refine ⟨l ++ [x], by simp [hl], fun i y hy => ?_⟩
        by_cases hi : i < l.length
        · rw [List.getElem?_append_left hi] at hy
          exact hx i y hy
        · have hlt := (List.getElem?_eq_some_iff.1 hy).1
          simp at hlt
          obtain rfl : i = l.length := by omega
          simp at hy
          subst hy
          rw [hl]
          exact ⟨ys, h1, h2⟩
      exact gen len (Nat.le_refl _)
    obtain ⟨l, hll, hlx⟩ := this
    refine ⟨l, some a, cap, by rw [hll], by omega, fun hp => ?_⟩
    obtain ⟨ys, h1, h2⟩ := hlx 0 l[0] (List.getElem?_eq_getElem hp)
    have hys := cells?_get h1
    have hsz := c.len h2
    have h0 : ∃ u, ys[0]? = some u := ⟨ys[0], List.getElem?_eq_getElem (by omega)⟩
    obtain ⟨u, hu⟩ := h0
    have g0 := hys.2 0 u hu
    rw [Nat.zero_mul] at g0
    obtain ⟨b, off, spot⟩ := a
    have hspot : spot = none := by simpa [Addr.add] using World.cell?_spot g0
    subst hspot
    refine ⟨b, off, rfl, ?_, fun i x hx => ?_⟩
    · simp only [Addr.add, if_true] at g0
      unfold World.cell? at g0
      by_cases hb' : b < w.heap.size
      · exact hb'
      · rw [Array.getElem?_eq_none (Nat.le_of_not_lt hb')] at g0
        cases g0
    · obtain ⟨zs, h3, h4⟩ := hlx i x hx
      refine ⟨zs, h4, fun j v hv => ?_⟩
      have := (cells?_get h3).2 j v hv
      have ea : ∀ (o k : Nat), (⟨b, o, none⟩ : Addr).add k = ⟨b, o + k, none⟩ := by
        intro o k
        unfold Addr.add
        split
        · rename_i h0; subst h0; rfl
        · rfl
      rw [ea, ea] at this
      exact this
/-- The fields from one on: where they begin, and what they read as. -/
structure Fields {α : Type} (P : Program) (off : Nat) (fs : List Field) (c : Cod α) : Prop where
  opens : ∀ {H : Type} {enc : TypeId × Value → H} {w : World} {fuel : Nat} {cs : List Value}, cs.length = off + c.size → (∀ f ∈ fs, ∃ y, DataW.trod enc P w 0 (fun _ => true) true fuel f.type ((cs.drop f.offset).take (P.cellsOf f.type)) = some y) → ∃ a, c.rd w w.heap.size (cs.drop off) a
theorem fields_nil {off : Nat} : Fields P off [] cN := ⟨fun hl _ => ⟨(), by show _ = []; apply List.drop_eq_nil_of_le; simp [cN] at hl; omega⟩⟩
theorem fields_cons {α β : Type} {c : Cod α} {d : Cod β} {off : Nat} {f : Field} {fs : List Field} (hf : f.offset = off) (hc : Opens P f.type c) (hd : Fields P (off + c.size) fs d) : Fields P off (f :: fs) (cP c d) := by
  refine ⟨fun {H enc w fuel cs} hl h => ?_⟩
  obtain ⟨y, hy⟩ := h f (by simp)
  rw [hf, hc.size] at hy
  obtain ⟨a, ha⟩ := hc.opens hy
  obtain ⟨b, hb⟩ := hd.opens (cs := cs) (by simp only [cP] at hl; omega) (fun g hg => h g (by simp [hg]))
  refine ⟨(a, b), _, _, ?_, ha, hb⟩
  rw [← List.drop_drop]
  exact (List.take_append_drop _ _).symm
theorem opens_R {α : Type} {c : Cod α} {fs : Array Field} (ht : P.underlying t = some (.struct fs)) (hc : P.cellsOf t = c.size) (h : Fields P 0 fs.toList c) : Opens P t c := by
  refine ⟨hc, fun {H enc w fuel cs x} hx => ?_⟩
  obtain ⟨xs, n, _, _, hlen, hxl, hg⟩ := DataW.trod_struct ht hx
  have := h.opens (H := H) (enc := enc) (w := w) (fuel := n) (cs := cs) (by rw [hlen, hc]; omega) (fun f hf => by
    obtain ⟨i, hi⟩ := List.getElem?_of_mem hf
    have h1 := hg i f (by simpa using hi)
    have h2 : i < fs.size := by
      have := (List.getElem?_eq_some_iff.1 hi).1
      simpa using this
    rw [h1]
    exact ⟨xs[i], List.getElem?_eq_getElem (by omega)⟩)
  simpa using this
theorem opens_M {α β : Type} {c : Cod α} (f : α → β) (h : Opens P t c) : Opens P t (cM c f) := ⟨h.size, fun hx => by obtain ⟨a, ha⟩ := h.opens hx; exact ⟨f a, a, rfl, ha⟩⟩
/-- An argument of one cell. -/
theorem open_one {α : Type} {c : Cod α} {H : Type} {enc : TypeId × Value → H} {w : World} {v : Value} {d : DataW H} {p : List MemPlace} (hc : Opens P t c) (h : DataW.Trod enc P w 0 (fun _ => true) true t v d p) : ∃ a, c.rd w w.heap.size v.cells.toList a := by
  obtain ⟨fuel, hf⟩ := h
  exact hc.opens hf
/-- An argument that is a struct. -/
theorem open_struct {α : Type} {c : Cod α} {fs : Array Field} (ht : P.underlying t = some (.struct fs)) {H : Type} {enc : TypeId × Value → H} {w : World} {r : Reach} {b0 : Nat} {v : Value} {d : DataW H} {p : List MemPlace} (hc : Opens P t c) (hv : Value.okWide P w r b0 t v) (h : DataW.Trod enc P w 0 (fun _ => true) true t v d p) : ∃ cs a, v = .agg (List.toArray cs) ∧ c.rd w w.heap.size cs a := by
  obtain ⟨cs, rfl, _⟩ := okWide_struct ht hv
  obtain ⟨fuel, hf⟩ := h
  obtain ⟨a, ha⟩ := hc.opens hf
  exact ⟨cs.toList, a, rfl, ha⟩
end
end Go.Proofs.Ytlpkkcodmoklaaa
