/- How plain data lie in memory: codecs over a set of blocks, and the arguments of a law opened to plain data. Over any program. -/
import Derived.Test.YtlblfblkallnhaaGreatDoorGround
import Derived.OpenShut
import Derived.DataReads
import Derived.ChangeSlices
import Derived.ChangeArms
import Derived.Below
import Derived.Lib.SmallJoins
import Derived.SizedLaws
namespace Go.Proofs.YtlblfblkallnhaaGreatDoor
set_option linter.unusedVariables false
set_option linter.unusedSimpArgs false
open Go.Joins Go.ChangeShapes Go.WideShapes Go.RowKit
/-- The blocks that are there. -/
def Lt (w : World) : Nat → Prop := fun b => b < w.heap.size
/-- How a datum lies in cells: their number, and when cells read as it, everything that it leads to in the blocks of S. -/
structure Cod (α : Type) where
  size : Nat
  rd : World → (Nat → Prop) → List Value → α → Prop
  fit : α → Prop
  len : ∀ {w : World} {S : Nat → Prop} {cs a}, rd w S cs a → cs.length = size
  keep : ∀ {w w' : World} {S : Nat → Prop} {cs a}, rd w S cs a → (∀ p : Addr, S p.block → w'.cell? p = w.cell? p) → rd w' S cs a
  more : ∀ {w : World} {S S' : Nat → Prop} {cs a}, rd w S cs a → (∀ b, S b → S' b) → rd w S' cs a
theorem Cod.now {α : Type} (c : Cod α) {w w' : World} {cs : List Value} {a : α} (h : c.rd w (Lt w) cs a) (hb : Below w.heap.size w w') : c.rd w' (Lt w') cs a := c.more (c.keep h fun _ hp => hb.cell hp) fun _ h => Nat.lt_of_lt_of_le h hb.size
def I64n (n : Int) : Prop := -9223372036854775808 ≤ n ∧ n ≤ 9223372036854775807
def cI : Cod Int where
  size := 1
  rd := fun _ _ cs n => cs = [.int .i64 n] ∧ I64n n
  fit := fun _ => True
  len := fun h => by rw [h.1]; rfl
  keep := fun h _ => h
  more := fun h _ => h
def cU : Cod Nat where
  size := 1
  rd := fun _ _ cs n => cs = [.int .u64 n] ∧ n < 18446744073709551616
  fit := fun _ => True
  len := fun h => by rw [h.1]; rfl
  keep := fun h _ => h
  more := fun h _ => h
def cB : Cod Bool where
  size := 1
  rd := fun _ _ cs b => cs = [.bool b]
  fit := fun _ => True
  len := fun h => by rw [h]; rfl
  keep := fun h _ => h
  more := fun h _ => h
def cS : Cod (List UInt8) where
  size := 1
  rd := fun _ _ cs l => cs = [.string (bs l)] ∧ l.length ≤ maxLen
  fit := fun l => l.length ≤ 140737488351232
  len := fun h => by rw [h.1]; rfl
  keep := fun h _ => h
  more := fun h _ => h
/-- The row of a slice: where it begins, and that each element reads. -/
def RdS {α : Type} (c : Cod α) (w : World) (S : Nat → Prop) (A : Option Addr) (l : List α) : Prop :=
  0 < l.length → ∃ b off, A = some ⟨b, off, none⟩ ∧ S b ∧ ∀ (i : Nat) (x : α), l[i]? = some x → ∃ ys, c.rd w S ys x ∧ ∀ (j : Nat) (u : Value), ys[j]? = some u → w.cell? ⟨b, off + i * c.size + j, none⟩ = some u
theorem RdS.keep {α : Type} {c : Cod α} {w w' : World} {S : Nat → Prop} {A : Option Addr} {l : List α} (h : RdS c w S A l) (hk : ∀ p : Addr, S p.block → w'.cell? p = w.cell? p) : RdS c w' S A l := by
  intro hl
  obtain ⟨b, off, h1, h2, h3⟩ := h hl
  refine ⟨b, off, h1, h2, fun i x hx => ?_⟩
  obtain ⟨ys, h4, h5⟩ := h3 i x hx
  exact ⟨ys, c.keep h4 hk, fun j u hu => (hk _ h2).trans (h5 j u hu)⟩
theorem RdS.more {α : Type} {c : Cod α} {w : World} {S S' : Nat → Prop} {A : Option Addr} {l : List α} (h : RdS c w S A l) (hS : ∀ b, S b → S' b) : RdS c w S' A l := by
  intro hl
  obtain ⟨b, off, h1, h2, h3⟩ := h hl
  refine ⟨b, off, h1, hS _ h2, fun i x hx => ?_⟩
  obtain ⟨ys, h4, h5⟩ := h3 i x hx
  exact ⟨ys, c.more h4 hS, h5⟩
theorem RdS.now {α : Type} {c : Cod α} {w w' : World} {A : Option Addr} {l : List α} (h : RdS c w (Lt w) A l) (hb : Below w.heap.size w w') : RdS c w' (Lt w') A l := (h.keep fun _ hp => hb.cell hp).more fun _ h => Nat.lt_of_lt_of_le h hb.size
theorem RdS.nil {α : Type} (c : Cod α) (w : World) (S : Nat → Prop) (A : Option Addr) : RdS c w S A [] := fun h => absurd h (by simp)
/-- The row's place, once for all its elements of one cell. -/
theorem RdS.pick {α : Type} {c : Cod α} {w : World} {S : Nat → Prop} {A : Option Addr} {l : List α} (h : RdS c w S A l) (hc : c.size = 1) : ∃ b off, (0 < l.length → A = some ⟨b, off, none⟩ ∧ S b) ∧ ∀ (i : Nat) (x : α), l[i]? = some x → ∃ u, c.rd w S [u] x ∧ w.cell? ⟨b, off + i, none⟩ = some u := by
  by_cases hl : 0 < l.length
  · obtain ⟨b, off, h1, h2, h3⟩ := h hl
    refine ⟨b, off, fun _ => ⟨h1, h2⟩, fun i x hx => ?_⟩
    obtain ⟨ys, h4, h5⟩ := h3 i x hx
    have hn := c.len h4
    rw [hc] at hn
    match ys, hn with
    | [u], _ =>
      refine ⟨u, h4, ?_⟩
      have := h5 0 u rfl
      rw [hc, Nat.mul_one] at this
      exact this
  · refine ⟨0, 0, fun h => absurd h hl, fun i x hx => ?_⟩
    have := (List.getElem?_eq_some_iff.1 hx).1
    omega
def cL {α : Type} (c : Cod α) : Cod (List α) where
  size := 1
  rd := fun w S cs l => ∃ A cap, cs = [.slice A l.length cap] ∧ (l.length ≤ maxLen ∧ l.length ≤ cap) ∧ RdS c w S A l
  fit := fun l => l.length ≤ 140737488351232 ∧ ∀ x ∈ l, c.fit x
  len := fun ⟨_, _, h, _⟩ => by rw [h]; rfl
  keep := fun ⟨A, cap, h, hm, hr⟩ hk => ⟨A, cap, h, hm, hr.keep hk⟩
  more := fun ⟨A, cap, h, hm, hr⟩ hB => ⟨A, cap, h, hm, hr.more hB⟩
def cN : Cod Unit where
  size := 0
  rd := fun _ _ cs _ => cs = []
  fit := fun _ => True
  len := fun h => by rw [h]; rfl
  keep := fun h _ => h
  more := fun h _ => h
def cP {α β : Type} (c : Cod α) (d : Cod β) : Cod (α × β) where
  size := c.size + d.size
  rd := fun w S cs x => ∃ xs ys, cs = xs ++ ys ∧ c.rd w S xs x.1 ∧ d.rd w S ys x.2
  fit := fun x => c.fit x.1 ∧ d.fit x.2
  len := fun ⟨_, _, h, h1, h2⟩ => by rw [h, List.length_append, c.len h1, d.len h2]
  keep := fun ⟨xs, ys, h, h1, h2⟩ hk => ⟨xs, ys, h, c.keep h1 hk, d.keep h2 hk⟩
  more := fun ⟨xs, ys, h, h1, h2⟩ hB => ⟨xs, ys, h, c.more h1 hB, d.more h2 hB⟩
def cM {α β : Type} (c : Cod α) (f : α → β) : Cod β where
  size := c.size
  rd := fun w S cs b => ∃ a, b = f a ∧ c.rd w S cs a
  fit := fun b => ∃ a, b = f a ∧ c.fit a
  len := fun ⟨_, _, h⟩ => c.len h
  keep := fun ⟨a, h, h1⟩ hk => ⟨a, h, c.keep h1 hk⟩
  more := fun ⟨a, h, h1⟩ hB => ⟨a, h, c.more h1 hB⟩
/-- Whatever reads as data of type t reads by the codec. -/
structure Opens {α : Type} (P : Program) (t : TypeId) (c : Cod α) : Prop where
  size : P.cellsOf t = c.size
  opens : ∀ {H : Type} {enc : TypeId × Value → H} {w : World} {fuel : Nat} {cs : List Value} {x : DataW H × List MemPlace}, DataW.trod enc P w 0 (fun _ => true) true fuel t cs = some x → (∀ n ∈ x.1.weights P t, n ≤ reachBytes) → ∃ a, c.rd w (Lt w) cs a ∧ c.fit a
theorem i64n_of {n : Int} (h : (Lit.int .i64 n).wf = true) : I64n n := bounds_i64 h
theorem u64n_of {n : Int} (h : (Lit.int .u64 n).wf = true) : 0 ≤ n ∧ n < 18446744073709551616 := by
  simp [Lit.wf, IntKind.min, IntKind.max, IntKind.signed, IntKind.bits] at h
  omega
section
variable {P : Program} {t e : TypeId}
theorem opens_I (ht : P.underlying t = some (.int .i64)) (hc : P.cellsOf t = 1) : Opens P t cI :=
  ⟨hc, fun h _ => by obtain ⟨n, rfl, _, hw⟩ := DataW.trod_int ht h; exact ⟨n, ⟨rfl, i64n_of hw⟩, trivial⟩⟩
theorem opens_U (ht : P.underlying t = some (.int .u64)) (hc : P.cellsOf t = 1) : Opens P t cU :=
  ⟨hc, fun h _ => by
    obtain ⟨n, rfl, _, hw⟩ := DataW.trod_int ht h
    have hb := u64n_of hw
    obtain ⟨k, rfl⟩ := Int.eq_ofNat_of_zero_le hb.1
    exact ⟨k, ⟨rfl, by omega⟩, trivial⟩⟩
theorem opens_B (ht : P.underlying t = some .bool) (hc : P.cellsOf t = 1) : Opens P t cB :=
  ⟨hc, fun h _ => by obtain ⟨b, rfl, _⟩ := DataW.trod_bool ht h; exact ⟨b, rfl, trivial⟩⟩
theorem opens_S (ht : P.underlying t = some .string) (hc : P.cellsOf t = 1) : Opens P t cS :=
  ⟨hc, fun h hf => by
    obtain ⟨s, rfl, rfl, hw⟩ := DataW.trod_string ht h
    obtain ⟨l, rfl⟩ := bs_of s
    exact ⟨l, ⟨rfl, by rw [bs_size] at hw; exact hw⟩, hf _ (by simp [DataW.weights, bs_data])⟩⟩
theorem cells?_get {w : World} {base n : Nat} {a : Addr} {cs : List Value} (h : w.cells? base a n = some cs) : cs.length = n ∧ ∀ (j : Nat) (u : Value), cs[j]? = some u → w.cell? (a.add j) = some u := by
  obtain ⟨_, h2, h3⟩ := World.cells?_some h
  exact ⟨h2, fun j u hu => (h3 j (by have := (List.getElem?_eq_some_iff.1 hu).1; omega)).trans hu⟩
theorem mem_weightsAll {H : Type} {P : Program} {e : TypeId} {d : DataW H} {n : Nat} (hn : n ∈ d.weights P e) : ∀ {ds : List (DataW H)}, d ∈ ds → n ∈ DataW.weightsAll P e ds
  | [], h => by cases h
  | x :: r, h => by
    rw [DataW.weightsAll, List.mem_append]
    rcases List.mem_cons.1 h with rfl | h
    · exact .inl hn
    · exact .inr (mem_weightsAll hn h)
theorem opens_L {α : Type} {c : Cod α} (ht : P.underlying t = some (.slice e)) (hc : P.cellsOf t = 1) (he : Opens P e c) (hpos : 0 < c.size) (hby : 1 ≤ P.bytesOf e) : Opens P t (cL c) := by
  refine ⟨hc, fun {H enc w fuel cs x} h hf => ?_⟩
  rcases DataW.trod_slice ht h with ⟨rfl, _⟩ | ⟨a, len, cap, elems, rest, n, _, rfl, rfl, hb, hl, hm, hlen, hel, _, _⟩
  · exact ⟨[], ⟨none, 0, rfl, by simp, RdS.nil _ _ _ _⟩, by simp, fun x hx => by simp at hx⟩
  · simp only [DataW.weights, ht, List.mem_cons, List.mem_append, List.length_map] at hf
    have hlf : len ≤ 140737488351232 := by
      have h1 := hf _ (Or.inl rfl)
      have h2 : (elems.length + rest.length) * 1 ≤ (elems.length + rest.length) * P.bytesOf e := Nat.mul_le_mul_left _ hby
      unfold reachBytes at h1
      omega
    have key : ∀ i, i < len → ∃ ys x, w.cells? 0 (a.add (i * c.size)) c.size = some ys ∧ c.rd w (Lt w) ys x ∧ c.fit x := by
      intro i hi
      have h1 := hel i hi
      rw [he.size] at h1
      have h2 : i < elems.length := by omega
      rw [List.getElem?_eq_getElem h2, Option.bind_eq_some_iff] at h1
      obtain ⟨ys, h3, h4⟩ := h1
      obtain ⟨x, hx⟩ := he.opens h4 (fun n hn => hf n (Or.inr (Or.inl (mem_weightsAll hn (List.mem_map.2 ⟨elems[i], List.getElem_mem h2, rfl⟩)))))
      exact ⟨ys, x, h3, hx⟩
    have : ∃ l : List α, l.length = len ∧ ∀ i x, l[i]? = some x → ∃ ys, w.cells? 0 (a.add (i * c.size)) c.size = some ys ∧ c.rd w (Lt w) ys x ∧ c.fit x := by
      have gen : ∀ m, m ≤ len → ∃ l : List α, l.length = m ∧ ∀ i x, l[i]? = some x → ∃ ys, w.cells? 0 (a.add (i * c.size)) c.size = some ys ∧ c.rd w (Lt w) ys x ∧ c.fit x := by
       intro m
       induction m with
       | zero => exact fun _ => ⟨[], rfl, fun i x hx => by simp at hx⟩
       | succ m ih =>
        intro hm
        obtain ⟨l, hl, hx⟩ := ih (by omega)
        obtain ⟨ys, x, h1, h2⟩ := key m (by omega)
        refine ⟨l ++ [x], by simp [hl], fun i y hy => ?_⟩
        by_cases hi : i < l.length
        · rw [List.getElem?_append_left hi] at hy
          exact hx i y hy
        · have hlt := (List.getElem?_eq_some_iff.1 hy).1
          simp at hlt
          obtain rfl : i = l.length := by omega
          simp at hy
          subst hy
          rw [hl]
          exact ⟨ys, h1, h2⟩
      exact gen len (Nat.le_refl _)
    obtain ⟨l, hll, hlx⟩ := this
    refine ⟨l, ⟨some a, cap, by rw [hll], ⟨by omega, by omega⟩, fun hp => ?_⟩, by omega, fun x hx => by
      obtain ⟨i, hi⟩ := List.getElem?_of_mem hx
      obtain ⟨_, _, _, h⟩ := hlx i x hi
      exact h⟩
    obtain ⟨ys, h1, h2, _⟩ := hlx 0 l[0] (List.getElem?_eq_getElem hp)
    have hys := cells?_get h1
    have hsz := c.len h2
    have h0 : ∃ u, ys[0]? = some u := ⟨ys[0], List.getElem?_eq_getElem (by omega)⟩
    obtain ⟨u, hu⟩ := h0
    have g0 := hys.2 0 u hu
    rw [Nat.zero_mul] at g0
    obtain ⟨b, off, spot⟩ := a
    have hspot : spot = none := by simpa [Addr.add] using World.cell?_spot g0
    subst hspot
    refine ⟨b, off, rfl, ?_, fun i x hx => ?_⟩
    · show b < w.heap.size
      simp only [Addr.add, if_true] at g0
      unfold World.cell? at g0
      by_cases hb' : b < w.heap.size
      · exact hb'
      · rw [Array.getElem?_eq_none (Nat.le_of_not_lt hb')] at g0
        cases g0
    · obtain ⟨zs, h3, h4, _⟩ := hlx i x hx
      refine ⟨zs, h4, fun j v hv => ?_⟩
      have := (cells?_get h3).2 j v hv
      have ea : ∀ (o k : Nat), (⟨b, o, none⟩ : Addr).add k = ⟨b, o + k, none⟩ := by
        intro o k
        unfold Addr.add
        split
        · rename_i h0; subst h0; rfl
        · rfl
      rw [ea, ea] at this
      exact this
/-- The fields from one on: where they begin, and what they read as. -/
structure Fields {α : Type} (P : Program) (off : Nat) (fs : List Field) (c : Cod α) : Prop where
  opens : ∀ {H : Type} {enc : TypeId × Value → H} {w : World} {fuel : Nat} {cs : List Value}, cs.length = off + c.size → (∀ f ∈ fs, ∃ y, DataW.trod enc P w 0 (fun _ => true) true fuel f.type ((cs.drop f.offset).take (P.cellsOf f.type)) = some y ∧ ∀ n ∈ y.1.weights P f.type, n ≤ reachBytes) → ∃ a, c.rd w (Lt w) (cs.drop off) a ∧ c.fit a
theorem fields_nil {off : Nat} : Fields P off [] cN := ⟨fun hl _ => ⟨(), by show _ = []; apply List.drop_eq_nil_of_le; simp [cN] at hl; omega, trivial⟩⟩
theorem fields_cons {α β : Type} {c : Cod α} {d : Cod β} {off : Nat} {f : Field} {fs : List Field} (hf : f.offset = off) (hc : Opens P f.type c) (hd : Fields P (off + c.size) fs d) : Fields P off (f :: fs) (cP c d) := by
  refine ⟨fun {H enc w fuel cs} hl h => ?_⟩
  obtain ⟨y, hy, hyf⟩ := h f (by simp)
  rw [hf, hc.size] at hy
  obtain ⟨a, ha, hfa⟩ := hc.opens hy hyf
  obtain ⟨b, hb, hfb⟩ := hd.opens (cs := cs) (by simp only [cP] at hl; omega) (fun g hg => h g (by simp [hg]))
  refine ⟨(a, b), ⟨_, _, ?_, ha, hb⟩, hfa, hfb⟩
  rw [← List.drop_drop]
  exact (List.take_append_drop _ _).symm
theorem opens_R {α : Type} {c : Cod α} {fs : Array Field} (ht : P.underlying t = some (.struct fs)) (hc : P.cellsOf t = c.size) (h : Fields P 0 fs.toList c) : Opens P t c := by
  refine ⟨hc, fun {H enc w fuel cs x} hx hwt => ?_⟩
  obtain ⟨xs, n, _, hxx, hlen, hxl, hg⟩ := DataW.trod_struct ht hx
  subst hxx
  simp only [DataW.weights, ht] at hwt
  have := h.opens (H := H) (enc := enc) (w := w) (fuel := n) (cs := cs) (by rw [hlen, hc]; omega) (fun f hf => by
    obtain ⟨i, hi⟩ := List.getElem?_of_mem hf
    have h1 := hg i f (by simpa using hi)
    have h2 : i < fs.size := by
      have := (List.getElem?_eq_some_iff.1 hi).1
      simpa using this
    rw [h1]
    exact ⟨xs[i], List.getElem?_eq_getElem (by omega), fun n hn => hwt n (DataW.weights_mem_each (j := i) (t := f.type) (d := xs[i].1) (by rw [List.getElem?_map, hi]; rfl) (by rw [List.getElem?_map, List.getElem?_eq_getElem (by omega)]; rfl) n hn)⟩)
  simpa using this
theorem opens_M {α β : Type} {c : Cod α} (f : α → β) (h : Opens P t c) : Opens P t (cM c f) := ⟨h.size, fun hx hf => by obtain ⟨a, ha, hfa⟩ := h.opens hx hf; exact ⟨f a, ⟨a, rfl, ha⟩, a, rfl, hfa⟩⟩
/-- An argument of one cell, or of any. -/
theorem open_one {α : Type} {c : Cod α} {H : Type} {enc : TypeId × Value → H} {w : World} {v : Value} {d : DataW H} {p : List MemPlace} (hc : Opens P t c) (h : DataW.Trod enc P w 0 (fun _ => true) true t v d p) (hf : ∀ n ∈ d.weights P t, n ≤ reachBytes) : ∃ a, c.rd w (Lt w) v.cells.toList a ∧ c.fit a := by
  obtain ⟨fuel, h⟩ := h
  exact hc.opens h hf
/-- What the reach says of one argument. -/
theorem reach_at {H : Type} {ts : List TypeId} {ds : List (DataW H)} (h : (DataW.weightsEach P ts ds).all (· ≤ reachBytes) = true) {j : Nat} {d : DataW H} (ht : ts[j]? = some t) (hd : ds[j]? = some d) : ∀ n ∈ d.weights P t, n ≤ reachBytes := fun n hn => by
  have := List.all_eq_true.1 h _ (DataW.weights_mem_each ht hd n hn)
  simpa using this
/-- An argument that is a slice. -/
theorem open_slice {α : Type} {c : Cod α} (ht : P.underlying t = some (.slice e)) {H : Type} {enc : TypeId × Value → H} {w : World} {r : Reach} {b0 : Nat} {v : Value} {d : DataW H} {p : List MemPlace} (hc : Opens P t (cL c)) (hv : Value.okWide P w r b0 t v) (h : DataW.Trod enc P w 0 (fun _ => true) true t v d p) (hf : ∀ n ∈ d.weights P t, n ≤ reachBytes) : ∃ A cap, ∃ l : List α, v = .slice A l.length cap ∧ (l.length ≤ maxLen ∧ l.length ≤ cap) ∧ RdS c w (Lt w) A l ∧ (cL c).fit l := by
  obtain ⟨l, ⟨A, cap, h1, h2, h3⟩, hfit⟩ := open_one hc h hf
  obtain ⟨a, len, cap', rfl⟩ := okWide_slice ht hv
  have : (Value.slice a len cap').cells.toList = [Value.slice a len cap'] := rfl
  rw [this] at h1
  exact ⟨A, cap, l, (List.cons.inj h1).1, h2, h3, hfit⟩
/-- An argument that is a struct. -/
theorem open_struct {α : Type} {c : Cod α} {fs : Array Field} (ht : P.underlying t = some (.struct fs)) {H : Type} {enc : TypeId × Value → H} {w : World} {r : Reach} {b0 : Nat} {v : Value} {d : DataW H} {p : List MemPlace} (hc : Opens P t c) (hv : Value.okWide P w r b0 t v) (h : DataW.Trod enc P w 0 (fun _ => true) true t v d p) (hf : ∀ n ∈ d.weights P t, n ≤ reachBytes) : ∃ cs a, v = .agg (List.toArray cs) ∧ c.rd w (Lt w) cs a ∧ c.fit a := by
  obtain ⟨cs, rfl, _⟩ := okWide_struct ht hv
  obtain ⟨fuel, h⟩ := h
  obtain ⟨a, ha⟩ := hc.opens h hf
  exact ⟨cs.toList, a, rfl, ha⟩
end
end Go.Proofs.YtlblfblkallnhaaGreatDoor
