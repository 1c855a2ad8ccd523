/- tabletext.lists: nine lists of words, made in whatever order. -/
import Derived.Test.YtlblfblkallnhaaGreatDoorTbInv
import Derived.Test.YtlblfblkallnhaaGreatDoorTbWalksA
import Derived.Lib.AppendZeros
import Derived.Deep.RegionHeld3
import Derived.Deep.Cut
namespace Go.Proofs.YtlblfblkallnhaaGreatDoor
set_option linter.unusedVariables false
set_option linter.unusedSimpArgs false
open Go.RowKit
attribute [local go_sem] bs_size bs_get bs_append bs_extract bs_toList
attribute [-go_sem] run_equalIn_agg
/-- Strings appended to a full row of strings. -/
theorem step_append_wordsL {P : Program} {ops : Array Oper} {o : Oper} {a : Act} {w : World} {K : Act → World → Prop} {Q : Exit → Act → World → Prop} {E : Prop}
    (hg : o.guard = none) (s x : Operand) (t : TypeId) (hop : o.op = Op.call { callee := Callee.builtin Builtin.append, args := #[s, x], argTypes := #[t, t] })
    (e : TypeId) (i : TypeInfo) (z : Value) (h1 : P.underlying t = some (.slice e)) (h2 : P.info? e = some i) (h3 : i.zero = some z) (h4 : i.size = 1) (h5 : i.bytes = 16) (h6 : z.cells.size = 1)
    (g0 : Nat) (us : List (List UInt8)) (n0 : Nat) (hn0 : n0 = us.length) (hs : a.eval s = .slice (some ⟨g0, 0, none⟩) n0 n0) (hu : Blk w g0 e (us.map fun x => Value.string (bs x)).toArray)
    (A : Option Addr) (n c : Nat) (l : List (List UInt8)) (hn : n = l.length) (hl : us.length + l.length ≤ 100000) (hl0 : 0 < l.length) (hx : a.eval x = .slice A n c) (hr : RdS cS w (Lt w) A l) (hus : ∀ x ∈ us, x.length ≤ maxLen)
    (hK : ∀ v' w', OwnR cS w' w.heap.size e v' (us ++ l) 0 → Below w.heap.size w w' → K (a.put o.dst v') w') :
    if Region.wanted o (yielded ops a.tmps) = true then Oper.wp P o a w K Q else E := by
  subst hn hn0
  obtain ⟨b, off, hA, hc⟩ := hr.pick rfl
  obtain ⟨rfl, _⟩ := hA hl0
  have hls : ∀ x ∈ l, x.length ≤ maxLen := fun x hx => by
    obtain ⟨j, hj⟩ := List.getElem?_of_mem hx
    obtain ⟨_, ⟨_, h7⟩, _⟩ := hc j x hj
    exact h7
  refine step_append_grows hg s x t hop e i z 1 16 h1 h2 h3 h4 h5 h6 (by decide) (some ⟨g0, 0, none⟩) us.length us.length (us.map fun x => Value.string (bs x)) hs (fun h => by cases h) (by simp) ?_ ⟨b, off, none⟩ l.length c (l.map fun y => Value.string (bs y)) hx (by simp) ?_ ?_ (by omega) (by unfold maxLen; omega) (by omega) ?_
  · intro b' hb' j v hv
    obtain rfl := Option.some.inj hb'
    rw [own_addr, hu.cell]
    simpa using hv
  · intro j v hv
    rw [List.getElem?_map, Option.map_eq_some_iff] at hv
    obtain ⟨y, hy, rfl⟩ := hv
    obtain ⟨u, ⟨h7, _⟩, h8⟩ := hc j y hy
    simp only [List.cons.injEq, and_true] at h7
    subst h7
    rw [Addr.add_lit]
    exact h8
  · intro v hv
    obtain ⟨y, _, rfl⟩ := List.mem_map.1 hv
    rfl
  · intro v' w' h hgr
    refine hK v' w' (own_strs (by rw [List.length_append, List.map_append]; exact h) ?_) ((Below.refl _ _).grown hgr (Nat.le_refl _) (fun k hk => by cases hk))
    intro x hx
    rcases List.mem_append.1 hx with hx | hx
    · exact hus x hx
    · exact hls x hx
theorem step_append_wordsNL {P : Program} {ops : Array Oper} {o : Oper} {a : Act} {w : World} {K : Act → World → Prop} {Q : Exit → Act → World → Prop} {E : Prop}
    (hg : o.guard = none) (s x : Operand) (t : TypeId) (hop : o.op = Op.call { callee := Callee.builtin Builtin.append, args := #[s, x], argTypes := #[t, t] })
    (e : TypeId) (i : TypeInfo) (z : Value) (h1 : P.underlying t = some (.slice e)) (h2 : P.info? e = some i) (h3 : i.zero = some z) (h4 : i.size = 1) (h5 : i.bytes = 16) (h6 : z.cells.size = 1)
    (g0 : Nat) (us : List (List UInt8)) (n0 : Nat) (hn0 : n0 = us.length) (hs : a.eval s = .slice (some ⟨g0, 0, none⟩) n0 n0) (cs : Array Value) (hu : Blk w g0 e cs) (hcs : cs = (us.map fun x => Value.string (bs x)).toArray)
    (A : Option Addr) (n c : Nat) (l : List (List UInt8)) (hn : n = l.length) (hl : us.length + l.length ≤ 100000) (hl0 : 0 < l.length) (hx : a.eval x = .slice A n c) (hr : RdS cS w (Lt w) A l) (hus : ∀ x ∈ us, x.length ≤ maxLen) (N : Nat) (hN : (us ++ l).length = N)
    (hK : ∀ A' c' w', OwnR cS w' w.heap.size e (.slice A' N c') (us ++ l) 0 → Below w.heap.size w w' → K (a.put o.dst (.slice A' N c')) w') :
    if Region.wanted o (yielded ops a.tmps) = true then Oper.wp P o a w K Q else E :=
  step_append_wordsL hg s x t hop e i z h1 h2 h3 h4 h5 h6 g0 us n0 hn0 hs (hcs ▸ hu) A n c l hn hl hl0 hx hr hus fun v' w' h hb => by
    obtain ⟨A', c', rfl⟩ := h.form
    rw [hN] at h ⊢
    exact hK A' c' w' h hb
def wdL : Nat → List UInt8
  | 0 => pathW
  | 1 => pointsW
  | 2 => sectionsW
  | 3 => overW
  | 4 => overpointsW
  | 5 => oversectionsW
  | 6 => flankW
  | 7 => guardsW
  | 8 => gapsW
  | _ => []
def wsL (r : Rou) : Nat → List (List UInt8)
  | 0 => stpsW r.path
  | 1 => stgsW r.pts
  | 2 => numsW r.secs
  | 3 => stpsW r.over
  | 4 => stgsW r.opts
  | 5 => numsW r.osecs
  | 6 => stgsW r.flk
  | 7 => numsW r.grd
  | 8 => endsW r.gap
  | _ => []
def foL : Nat → Nat
  | 0 => 3
  | 1 => 4
  | 2 => 5
  | 3 => 8
  | 4 => 9
  | 5 => 10
  | 6 => 11
  | 7 => 12
  | 8 => 13
  | _ => 0
def svL (v : RouV) : Nat → Value
  | 0 => .slice v.A1 v.r.path.length v.c1
  | 1 => .slice v.A2 v.r.pts.length v.c2
  | 2 => .slice v.A3 v.r.secs.length v.c3
  | 3 => .slice v.A4 v.r.over.length v.c4
  | 4 => .slice v.A5 v.r.opts.length v.c5
  | 5 => .slice v.A6 v.r.osecs.length v.c6
  | 6 => .slice v.A7 v.r.flk.length v.c7
  | 7 => .slice v.A8 v.r.grd.length v.c8
  | 8 => .slice v.A9 v.r.gap.length v.c9
  | _ => undef
/-- All nine lines, also those without a word. -/
def nineL (r : Rou) : Lns := [pathW :: stpsW r.path, pointsW :: stgsW r.pts, sectionsW :: numsW r.secs, overW :: stpsW r.over, overpointsW :: stgsW r.opts, oversectionsW :: numsW r.osecs, flankW :: stgsW r.flk, guardsW :: numsW r.grd, gapsW :: endsW r.gap]
/-- Values that read as lines, one by one, by blocks that are no rows of lines. -/
def RelL (w : World) : List Value → Lns → Prop
  | [], [] => True
  | v :: vs, l :: ls => (cL cS).rd w (Sep w 46 w.heap.size) [v] l ∧ RelL w vs ls
  | _, _ => False
theorem RelL.get {w : World} : ∀ {vs : List Value} {ls : Lns}, RelL w vs ls → ∀ (i : Nat) (l : List (List UInt8)), ls[i]? = some l → ∃ v, vs[i]? = some v ∧ (cL cS).rd w (Sep w 46 w.heap.size) [v] l
  | [], [], _, i, l, hl => by simp at hl
  | v :: vs, x :: ls, h, 0, l, hl => by simp at hl; subst hl; exact ⟨v, rfl, h.1⟩
  | v :: vs, x :: ls, h, i + 1, l, hl => RelL.get h.2 i l (by simpa using hl)
  | [], x :: ls, h, _, _, _ => h.elim
  | v :: vs, [], h, _, _, _ => h.elim
theorem sep_to {w w' : World} {T : TypeId} (hs : ∀ b, Sep w T w.heap.size b → w'.heap[b]? = w.heap[b]?) (hz : w.heap.size ≤ w'.heap.size) : ∀ b, Sep w T w.heap.size b → Sep w' T w'.heap.size b := fun b hb => ⟨Nat.lt_of_lt_of_le hb.1 hz, fun cs fr hx => hb.2 cs fr (by rw [← hs b hb]; exact hx)⟩
theorem RelL.to {w w' : World} (hs : ∀ b, Sep w 46 w.heap.size b → w'.heap[b]? = w.heap[b]?) (hz : w.heap.size ≤ w'.heap.size) : ∀ {vs : List Value} {ls : Lns}, RelL w vs ls → RelL w' vs ls
  | [], [], _ => trivial
  | v :: vs, x :: ls, h => ⟨(cL cS).more ((cL cS).keep h.1 fun p hp => cell_same (hs _ hp)) (sep_to hs hz), RelL.to hs hz h.2⟩
  | [], x :: ls, h => h.elim
  | v :: vs, [], h => h.elim
theorem RelL.now {w w' : World} {vs : List Value} {ls : Lns} (h : RelL w vs ls) (hb : Below w.heap.size w w') : RelL w' vs ls := h.to (fun b hs => hb.block b hs.1) hb.size
theorem RelL.frm {w w' : World} {base : Nat} {vs : List Value} {ls : Lns} (h : RelL w vs ls) (hf : Frm base 46 w w') : RelL w' vs ls :=
  h.to (fun b hb => by
    have hlt : b < w.heap.size := hb.1
    have ho : w.heap[b]? = some w.heap[b] := Array.getElem?_eq_getElem hb.1
    rw [hf.obj b _ ho fun cs fr hx => hb.2 cs fr (by rw [ho, hx]), ho]) hf.size
/-- What each operation's value is. -/
def PrL (v : RouV) (g0 B0 i : Nat) (x : Value) (w : World) : Prop :=
  if i = 45 then ∃ g cs, x = .slice (some ⟨g, 0, none⟩) 9 9 ∧ B0 ≤ g ∧ Blk w g 46 (List.toArray cs) ∧ RelL w cs (nineL v.r)
  else if i % 5 = 0 then ∃ g, x = .slice (some ⟨g, 0, none⟩) 1 1 ∧ B0 ≤ g ∧ Blk w g 9 #[.string (bs (wdL (i / 5)))]
  else if i % 5 = 1 then x = .pointer (some ⟨g0, foL (i / 5), none⟩)
  else if i % 5 = 2 then x = svL v (i / 5)
  else if i % 5 = 3 then ∃ A c, x = .slice A (wsL v.r (i / 5)).length c ∧ OwnR cS w B0 9 (.slice A (wsL v.r (i / 5)).length c) (wsL v.r (i / 5)) 0
  else ∃ A c, x = .slice A ((wsL v.r (i / 5)).length + 1) c ∧ OwnR cS w B0 9 (.slice A ((wsL v.r (i / 5)).length + 1) c) (wdL (i / 5) :: wsL v.r (i / 5)) 0
theorem PrL_0 {v : RouV} {g0 B0 i : Nat} {x : Value} {w : World} (h : i ≠ 45) (hc : i % 5 = 0) : PrL v g0 B0 i x w ↔ ∃ g, x = .slice (some ⟨g, 0, none⟩) 1 1 ∧ B0 ≤ g ∧ Blk w g 9 #[.string (bs (wdL (i / 5)))] := by unfold PrL; rw [if_neg h, if_pos hc]
theorem PrL_1 {v : RouV} {g0 B0 i : Nat} {x : Value} {w : World} (h : i ≠ 45) (hc : i % 5 = 1) : PrL v g0 B0 i x w ↔ x = .pointer (some ⟨g0, foL (i / 5), none⟩) := by unfold PrL; rw [if_neg h, if_neg (by omega), if_pos hc]
theorem PrL_2 {v : RouV} {g0 B0 i : Nat} {x : Value} {w : World} (h : i ≠ 45) (hc : i % 5 = 2) : PrL v g0 B0 i x w ↔ x = svL v (i / 5) := by unfold PrL; rw [if_neg h, if_neg (by omega), if_neg (by omega), if_pos hc]
theorem PrL_3 {v : RouV} {g0 B0 i : Nat} {x : Value} {w : World} (h : i ≠ 45) (hc : i % 5 = 3) : PrL v g0 B0 i x w ↔ ∃ A c, x = .slice A (wsL v.r (i / 5)).length c ∧ OwnR cS w B0 9 (.slice A (wsL v.r (i / 5)).length c) (wsL v.r (i / 5)) 0 := by unfold PrL; rw [if_neg h, if_neg (by omega), if_neg (by omega), if_neg (by omega), if_pos hc]
theorem PrL_4 {v : RouV} {g0 B0 i : Nat} {x : Value} {w : World} (h : i ≠ 45) (hc : i % 5 = 4) : PrL v g0 B0 i x w ↔ ∃ A c, x = .slice A ((wsL v.r (i / 5)).length + 1) c ∧ OwnR cS w B0 9 (.slice A ((wsL v.r (i / 5)).length + 1) c) (wdL (i / 5) :: wsL v.r (i / 5)) 0 := by unfold PrL; rw [if_neg h, if_neg (by omega), if_neg (by omega), if_neg (by omega), if_neg (by omega)]
theorem PrL_5 {v : RouV} {g0 B0 : Nat} {x : Value} {w : World} : PrL v g0 B0 45 x w ↔ ∃ g cs, x = .slice (some ⟨g, 0, none⟩) 9 9 ∧ B0 ≤ g ∧ Blk w g 46 (List.toArray cs) ∧ RelL w cs (nineL v.r) := by unfold PrL; rw [if_pos rfl]
theorem ev_eq (a : Act) (n : Nat) : a.eval (.tmp n) = a.tmps[n]?.getD undef := by simp [Act.eval]
theorem PrL.now {v : RouV} {g0 B0 i : Nat} {x : Value} {w w' : World} (h : PrL v g0 B0 i x w) (hb : Below w.heap.size w w') : PrL v g0 B0 i x w' := by
  unfold PrL at h ⊢
  split
  · rename_i h1; rw [if_pos h1] at h; obtain ⟨g, cs, h2, h3, h4, h5⟩ := h; exact ⟨g, cs, h2, h3, h4.now hb, h5.now hb⟩
  rename_i h1; rw [if_neg h1] at h
  split
  · rename_i h1; rw [if_pos h1] at h; obtain ⟨g, h2, h4, h3⟩ := h; exact ⟨g, h2, h4, h3.now hb⟩
  rename_i h1; rw [if_neg h1] at h
  split
  · rename_i h1; rw [if_pos h1] at h; exact h
  rename_i h1; rw [if_neg h1] at h
  split
  · rename_i h1; rw [if_pos h1] at h; exact h
  rename_i h1; rw [if_neg h1] at h
  split
  · rename_i h1; rw [if_pos h1] at h; obtain ⟨A, c, h2, h3⟩ := h; exact ⟨A, c, h2, h3.now hb⟩
  rename_i h1; rw [if_neg h1] at h
  obtain ⟨A, c, h2, h3⟩ := h; exact ⟨A, c, h2, h3.now hb⟩
/-- What holds whatever has come up. -/
structure InvL (v : RouV) (W0 : World) (g0 : Nat) (listed : Array Bool) (a : Act) (w : World) : Prop where
  sz : listed.size = 47
  ts : a.tmps.size = 49
  df : a.defers = []
  t1 : a.eval (.tmp 1) = .pointer (some ⟨g0, 0, none⟩)
  bel : Below W0.heap.size W0 w
  box : RBx g0 v w
  at_ : ∀ i, i < 46 → listed[i]? = some true → PrL v g0 W0.heap.size i (a.eval (.tmp (i + 3))) w
  fin : listed[46]? = some true → PrL v g0 W0.heap.size 45 (a.eval (.tmp 2)) w
theorem InvL.step {v : RouV} {W0 : World} {g0 : Nat} {listed : Array Bool} {a : Act} {w w' : World} (h : InvL v W0 g0 listed a w) {i : Nat} (hi : i < 46) {x : Value} (hb : Below w.heap.size w w') (hx : PrL v g0 W0.heap.size i x w') : InvL v W0 g0 (listed.setIfInBounds i true) (a.put (some (i + 3)) x) w' := by
  refine ⟨by rw [Array.size_setIfInBounds]; exact h.sz, by rw [put_size]; exact h.ts, h.df, by rw [put_ne _ _ _ _ (by omega)]; exact h.t1, bel_then h.bel h.bel.size hb, h.box.now hb, fun j hj hl => ?_, fun hl => ?_⟩
  · by_cases e : i = j
    · subst e; rw [put_same _ _ _ (by rw [h.ts]; omega)]; exact hx
    · rw [put_ne _ _ _ _ (by omega)]
      rw [Array.getElem?_setIfInBounds_ne e] at hl
      exact (h.at_ j hj hl).now hb
  · rw [put_ne _ _ _ _ (by omega)]
    rw [Array.getElem?_setIfInBounds_ne (by omega)] at hl
    exact (h.fin hl).now hb
theorem InvL.last {v : RouV} {W0 : World} {g0 : Nat} {listed : Array Bool} {a : Act} {w : World} (h : InvL v W0 g0 listed a w) {x : Value} (hx : PrL v g0 W0.heap.size 45 x w) : InvL v W0 g0 (listed.setIfInBounds 46 true) (a.put (some 2) x) w := by
  refine ⟨by rw [Array.size_setIfInBounds]; exact h.sz, by rw [put_size]; exact h.ts, h.df, by rw [put_ne _ _ _ _ (by omega)]; exact h.t1, h.bel, h.box, fun j hj hl => ?_, fun _ => ?_⟩
  · rw [put_ne _ _ _ _ (by omega)]
    rw [Array.getElem?_setIfInBounds_ne (by omega)] at hl
    exact h.at_ j hj hl
  · rw [put_same _ _ _ (by rw [h.ts]; omega)]; exact hx
def opsL : Array Oper := #[.mk (some 3) (.buildSlice 46 1 #[(0, .const (.string (.mk #[112, 97, 116, 104])))]) 46 "tabletext.go:37" #[] none, .mk (some 4) (.fieldAddr 41 (.tmp 1) 3) 0 "tabletext.go:37" #[] none, .mk (some 5) (.load 37 (.tmp 4)) 37 "tabletext.go:37" #[.mk 1 .data] none, .mk (some 6) (.call (.mk (.value (.func 48)) #[.tmp 5] #[37])) 46 "tabletext.go:38" #[.mk 2 .data] none, .mk (some 7) (.call (.mk (.builtin .append) #[.tmp 3, .tmp 6] #[46, 46])) 46 "tabletext.go:37" #[.mk 0 .data, .mk 3 .data, .mk 3 .chain] none, .mk (some 8) (.buildSlice 46 1 #[(0, .const (.string (.mk #[112, 111, 105, 110, 116, 115])))]) 46 "tabletext.go:37" #[] none, .mk (some 9) (.fieldAddr 41 (.tmp 1) 4) 0 "tabletext.go:37" #[] none, .mk (some 10) (.load 38 (.tmp 9)) 38 "tabletext.go:37" #[.mk 6 .data] none, .mk (some 11) (.call (.mk (.value (.func 49)) #[.tmp 10] #[38])) 46 "tabletext.go:39" #[.mk 7 .data, .mk 4 .chain] none, .mk (some 12) (.call (.mk (.builtin .append) #[.tmp 8, .tmp 11] #[46, 46])) 46 "tabletext.go:37" #[.mk 5 .data, .mk 8 .data, .mk 8 .chain] none, .mk (some 13) (.buildSlice 46 1 #[(0, .const (.string (.mk #[115, 101, 99, 116, 105, 111, 110, 115])))]) 46 "tabletext.go:37" #[] none, .mk (some 14) (.fieldAddr 41 (.tmp 1) 5) 0 "tabletext.go:37" #[] none, .mk (some 15) (.load 23 (.tmp 14)) 23 "tabletext.go:37" #[.mk 11 .data] none, .mk (some 16) (.call (.mk (.value (.func 50)) #[.tmp 15] #[23])) 46 "tabletext.go:40" #[.mk 12 .data, .mk 9 .chain] none, .mk (some 17) (.call (.mk (.builtin .append) #[.tmp 13, .tmp 16] #[46, 46])) 46 "tabletext.go:37" #[.mk 10 .data, .mk 13 .data, .mk 13 .chain] none, .mk (some 18) (.buildSlice 46 1 #[(0, .const (.string (.mk #[111, 118, 101, 114])))]) 46 "tabletext.go:37" #[] none, .mk (some 19) (.fieldAddr 41 (.tmp 1) 8) 0 "tabletext.go:37" #[] none, .mk (some 20) (.load 37 (.tmp 19)) 37 "tabletext.go:37" #[.mk 16 .data] none, .mk (some 21) (.call (.mk (.value (.func 48)) #[.tmp 20] #[37])) 46 "tabletext.go:41" #[.mk 17 .data, .mk 14 .chain] none, .mk (some 22) (.call (.mk (.builtin .append) #[.tmp 18, .tmp 21] #[46, 46])) 46 "tabletext.go:37" #[.mk 15 .data, .mk 18 .data, .mk 18 .chain] none, .mk (some 23) (.buildSlice 46 1 #[(0, .const (.string (.mk #[111, 118, 101, 114, 112, 111, 105, 110, 116, 115])))]) 46 "tabletext.go:37" #[] none, .mk (some 24) (.fieldAddr 41 (.tmp 1) 9) 0 "tabletext.go:37" #[] none, .mk (some 25) (.load 38 (.tmp 24)) 38 "tabletext.go:37" #[.mk 21 .data] none, .mk (some 26) (.call (.mk (.value (.func 49)) #[.tmp 25] #[38])) 46 "tabletext.go:42" #[.mk 22 .data, .mk 19 .chain] none, .mk (some 27) (.call (.mk (.builtin .append) #[.tmp 23, .tmp 26] #[46, 46])) 46 "tabletext.go:37" #[.mk 20 .data, .mk 23 .data, .mk 23 .chain] none, .mk (some 28) (.buildSlice 46 1 #[(0, .const (.string (.mk #[111, 118, 101, 114, 115, 101, 99, 116, 105, 111, 110, 115])))]) 46 "tabletext.go:37" #[] none, .mk (some 29) (.fieldAddr 41 (.tmp 1) 10) 0 "tabletext.go:37" #[] none, .mk (some 30) (.load 23 (.tmp 29)) 23 "tabletext.go:37" #[.mk 26 .data] none, .mk (some 31) (.call (.mk (.value (.func 50)) #[.tmp 30] #[23])) 46 "tabletext.go:43" #[.mk 27 .data, .mk 24 .chain] none, .mk (some 32) (.call (.mk (.builtin .append) #[.tmp 28, .tmp 31] #[46, 46])) 46 "tabletext.go:37" #[.mk 25 .data, .mk 28 .data, .mk 28 .chain] none, .mk (some 33) (.buildSlice 46 1 #[(0, .const (.string (.mk #[102, 108, 97, 110, 107])))]) 46 "tabletext.go:37" #[] none, .mk (some 34) (.fieldAddr 41 (.tmp 1) 11) 0 "tabletext.go:37" #[] none, .mk (some 35) (.load 38 (.tmp 34)) 38 "tabletext.go:37" #[.mk 31 .data] none, .mk (some 36) (.call (.mk (.value (.func 49)) #[.tmp 35] #[38])) 46 "tabletext.go:44" #[.mk 32 .data, .mk 29 .chain] none, .mk (some 37) (.call (.mk (.builtin .append) #[.tmp 33, .tmp 36] #[46, 46])) 46 "tabletext.go:37" #[.mk 30 .data, .mk 33 .data, .mk 33 .chain] none, .mk (some 38) (.buildSlice 46 1 #[(0, .const (.string (.mk #[103, 117, 97, 114, 100, 115])))]) 46 "tabletext.go:37" #[] none, .mk (some 39) (.fieldAddr 41 (.tmp 1) 12) 0 "tabletext.go:37" #[] none, .mk (some 40) (.load 23 (.tmp 39)) 23 "tabletext.go:37" #[.mk 36 .data] none, .mk (some 41) (.call (.mk (.value (.func 50)) #[.tmp 40] #[23])) 46 "tabletext.go:45" #[.mk 37 .data, .mk 34 .chain] none, .mk (some 42) (.call (.mk (.builtin .append) #[.tmp 38, .tmp 41] #[46, 46])) 46 "tabletext.go:37" #[.mk 35 .data, .mk 38 .data, .mk 38 .chain] none, .mk (some 43) (.buildSlice 46 1 #[(0, .const (.string (.mk #[103, 97, 112, 115])))]) 46 "tabletext.go:37" #[] none, .mk (some 44) (.fieldAddr 41 (.tmp 1) 13) 0 "tabletext.go:37" #[] none, .mk (some 45) (.load 39 (.tmp 44)) 39 "tabletext.go:37" #[.mk 41 .data] none, .mk (some 46) (.call (.mk (.value (.func 51)) #[.tmp 45] #[39])) 46 "tabletext.go:46" #[.mk 42 .data, .mk 39 .chain] none, .mk (some 47) (.call (.mk (.builtin .append) #[.tmp 43, .tmp 46] #[46, 46])) 46 "tabletext.go:37" #[.mk 40 .data, .mk 43 .data, .mk 43 .chain] none, .mk (some 48) (.buildSlice 43 9 #[(0, .tmp 7), (1, .tmp 12), (2, .tmp 17), (3, .tmp 22), (4, .tmp 27), (5, .tmp 32), (6, .tmp 37), (7, .tmp 42), (8, .tmp 47)]) 43 "tabletext.go:37" #[.mk 4 .data, .mk 9 .data, .mk 14 .data, .mk 19 .data, .mk 24 .data, .mk 29 .data, .mk 34 .data, .mk 39 .data, .mk 44 .data] none, .mk (some 2) (.assign (.tmp 48)) 43 "tabletext.go:37" #[.mk 45 .data, .mk 44 .chain, .mk 0 .phase, .mk 1 .phase, .mk 2 .phase, .mk 3 .phase, .mk 4 .phase, .mk 5 .phase, .mk 6 .phase, .mk 7 .phase, .mk 8 .phase, .mk 9 .phase, .mk 10 .phase, .mk 11 .phase, .mk 12 .phase, .mk 13 .phase, .mk 14 .phase, .mk 15 .phase, .mk 16 .phase, .mk 17 .phase, .mk 18 .phase, .mk 19 .phase, .mk 20 .phase, .mk 21 .phase, .mk 22 .phase, .mk 23 .phase, .mk 24 .phase, .mk 25 .phase, .mk 26 .phase, .mk 27 .phase, .mk 28 .phase, .mk 29 .phase, .mk 30 .phase, .mk 31 .phase, .mk 32 .phase, .mk 33 .phase, .mk 34 .phase, .mk 35 .phase, .mk 36 .phase, .mk 37 .phase, .mk 38 .phase, .mk 39 .phase, .mk 40 .phase, .mk 41 .phase, .mk 42 .phase, .mk 43 .phase, .mk 44 .phase, .mk 45 .phase] none]
theorem stepsC (l : List Stp) (A : Option Addr) (cap : Nat) (w : World) (E : Env w) (hr : RdS cStp w (Lt w) A l) (hl : l.length ≤ 40000) : Calls Tryz.prog 48 #[.slice A l.length cap] w (RowP w (stpsW l)) := steps_any l A cap w E hr hl
theorem settingsC (l : List Stg) (A : Option Addr) (cap : Nat) (w : World) (E : Env w) (hr : RdS cStg w (Lt w) A l) (hl : l.length ≤ 40000) : Calls Tryz.prog 49 #[.slice A l.length cap] w (RowP w (stgsW l)) := settings_any l A cap w E hr hl
theorem numbersC (l : List Int) (A : Option Addr) (cap : Nat) (w : World) (E : Env w) (hr : RdS cI w (Lt w) A l) (hl : l.length ≤ 40000) : Calls Tryz.prog 50 #[.slice A l.length cap] w (RowP w (numsW l)) := numbers_any l A cap w E hr hl
theorem endsC (l : List End2) (A : Option Addr) (cap : Nat) (w : World) (E : Env w) (hr : RdS cEnd w (Lt w) A l) (hl : l.length ≤ 40000) : Calls Tryz.prog 51 #[.slice A l.length cap] w (RowP w (endsW l)) := ends_any l A cap w E hr hl
theorem one_own {w : World} {B g : Nat} {e : TypeId} {x : List UInt8} (h : Blk w g e #[.string (bs x)]) (hg : B ≤ g) (hx : x.length ≤ 20) : OwnR cS w B e (.slice (some ⟨g, 0, none⟩) 1 1) [x] 0 :=
  ⟨[.string (bs x)], ⟨by simp [cS], Or.inr ⟨g, 1, _, rfl, hg, h, Nat.le_refl _, by unfold maxLen; omega, by simp [cS], by simp [cS]⟩⟩, ⟨[.string (bs x)], [], rfl, ⟨rfl, Nat.le_trans hx (by unfold maxLen; omega)⟩, rfl⟩, Nat.zero_le _⟩
theorem own_cl {w : World} {B : Nat} {A : Option Addr} {n c : Nat} {l : List (List UInt8)} (h : OwnR cS w B 9 (.slice A n c) l 0) : (cL cS).rd w (Sep w 46 w.heap.size) [.slice A n c] l := by
  obtain ⟨_, _, _, h1⟩ := h.inner (T := 46) (by decide)
  exact h1
theorem loadCellsFrom_zero {P : Program} (w : World) (a : Addr) (i : Nat) (acc : Array Value) : (loadCellsFrom a i 0 acc).run P w = .ok acc w := rfl
theorem run_app_zero {P : Program} (w : World) (t ty e : TypeId) (i : TypeInfo) (ht : P.underlying t = some (.slice e)) (hi : P.info? e = some i) (g : Nat) (A : Option Addr) (k : Nat) : (Builtin.append_ #[t, t] ty #[.slice (some ⟨g, 0, none⟩) 1 1, .slice A 0 k]).run P w = .ok (.slice (some ⟨g, 0, none⟩) 1 1) w := by
  cases A <;> simp [Builtin.append_, run_underlying ht, sizeOf, typeInfo, hi, Builtin.lenOf, Builtin.firstCells, storeCells, loadCells, loadCellsFrom_zero]
section
variable {v : RouV} {W0 : World} {g0 : Nat} {listed : Array Bool} {a : Act} {w : World} {Q : Exit → Act → World → Prop}
set_option maxRecDepth 100000 in
set_option maxHeartbeats 2000000 in
theorem stL_0 (h : InvL v W0 g0 listed a w) (E : Env W0) (hl : listed[0]? = some false) : wpOp Tryz.prog opsL Q 0 (fun a' w' => InvL v W0 g0 (listed.setIfInBounds 0 true) a' w') a w := by
  refine wpOp_at (o := .mk (some 3) (.buildSlice 46 1 #[(0, .const (.string (.mk #[112, 97, 116, 104])))]) 46 "tabletext.go:37" #[] none) rfl ?_
  have hK : Hid (∀ x w', Below w.heap.size w w' → PrL v g0 W0.heap.size 0 x w' → InvL v W0 g0 (listed.setIfInBounds 0 true) (a.put (some 3) x) w') := Lib.hid fun x w' hb hx => h.step (by omega) hb hx
  obtain ⟨K, hKe⟩ : ∃ K : Act → World → Prop, K = fun a' w' => InvL v W0 g0 (listed.setIfInBounds 0 true) a' w' := ⟨_, rfl⟩
  have hK2 : Hid (∀ x w', Below w.heap.size w w' → PrL v g0 W0.heap.size 0 x w' → K (a.put (some 3) x) w') := Lib.hid (by rw [hKe]; exact hK.out)
  rw [← hKe]
  clear hKe hK
  have hz := h.bel.size
  clear h
  go_simp
  exact hK2.out _ _ ((Below.refl _ _).alloc (Nat.le_refl _) _) ((PrL_0 (by decide) (by decide)).2 ⟨_, rfl, hz, Blk.new _ _ _ _ rfl⟩)
set_option maxRecDepth 100000 in
set_option maxHeartbeats 2000000 in
theorem stL_1 (h : InvL v W0 g0 listed a w) (E : Env W0) (hl : listed[1]? = some false) : wpOp Tryz.prog opsL Q 1 (fun a' w' => InvL v W0 g0 (listed.setIfInBounds 1 true) a' w') a w := by
  refine wpOp_at (o := .mk (some 4) (.fieldAddr 41 (.tmp 1) 3) 0 "tabletext.go:37" #[] none) rfl ?_
  have hK : Hid (∀ x w', Below w.heap.size w w' → PrL v g0 W0.heap.size 1 x w' → InvL v W0 g0 (listed.setIfInBounds 1 true) (a.put (some 4) x) w') := Lib.hid fun x w' hb hx => h.step (by omega) hb hx
  obtain ⟨K, hKe⟩ : ∃ K : Act → World → Prop, K = fun a' w' => InvL v W0 g0 (listed.setIfInBounds 1 true) a' w' := ⟨_, rfl⟩
  have hK2 : Hid (∀ x w', Below w.heap.size w w' → PrL v g0 W0.heap.size 1 x w' → K (a.put (some 4) x) w') := Lib.hid (by rw [hKe]; exact hK.out)
  rw [← hKe]
  clear hKe hK
  have e1 := h.t1
  rw [ev_eq] at e1
  clear h
  go_simp
  exact hK2.out _ _ (Below.refl _ _) ((PrL_1 (by decide) (by decide)).2 rfl)
set_option maxRecDepth 100000 in
set_option maxHeartbeats 2000000 in
theorem stL_2 (h : InvL v W0 g0 listed a w) (E : Env W0) (hl : listed[2]? = some false) (h1 : listed[1]? = some true) : wpOp Tryz.prog opsL Q 2 (fun a' w' => InvL v W0 g0 (listed.setIfInBounds 2 true) a' w') a w := by
  refine wpOp_at (o := .mk (some 5) (.load 37 (.tmp 4)) 37 "tabletext.go:37" #[.mk 1 .data] none) rfl ?_
  have hK : Hid (∀ x w', Below w.heap.size w w' → PrL v g0 W0.heap.size 2 x w' → InvL v W0 g0 (listed.setIfInBounds 2 true) (a.put (some 5) x) w') := Lib.hid fun x w' hb hx => h.step (by omega) hb hx
  obtain ⟨K, hKe⟩ : ∃ K : Act → World → Prop, K = fun a' w' => InvL v W0 g0 (listed.setIfInBounds 2 true) a' w' := ⟨_, rfl⟩
  have hK2 : Hid (∀ x w', Below w.heap.size w w' → PrL v g0 W0.heap.size 2 x w' → K (a.put (some 5) x) w') := Lib.hid (by rw [hKe]; exact hK.out)
  rw [← hKe]
  clear hKe hK
  have e1 : a.eval (.tmp 4) = .pointer (some ⟨g0, 3, none⟩) := (PrL_1 (by decide) (by decide)).1 (h.at_ 1 (by omega) h1)
  rw [ev_eq] at e1
  have x1 := h.box.x3
  clear h
  go_simp
  exact hK2.out _ _ (Below.refl _ _) ((PrL_2 (by decide) (by decide)).2 rfl)
set_option maxRecDepth 100000 in
set_option maxHeartbeats 2000000 in
theorem stL_3 (h : InvL v W0 g0 listed a w) (E : Env W0) (hl : listed[3]? = some false) (h1 : listed[2]? = some true) (hsm : v.r.path.length ≤ 40000) : wpOp Tryz.prog opsL Q 3 (fun a' w' => InvL v W0 g0 (listed.setIfInBounds 3 true) a' w') a w := by
  refine wpOp_at (o := .mk (some 6) (.call (.mk (.value (.func 48)) #[.tmp 5] #[37])) 46 "tabletext.go:38" #[.mk 2 .data] none) rfl ?_
  have hK : Hid (∀ x w', Below w.heap.size w w' → PrL v g0 W0.heap.size 3 x w' → InvL v W0 g0 (listed.setIfInBounds 3 true) (a.put (some 6) x) w') := Lib.hid fun x w' hb hx => h.step (by omega) hb hx
  obtain ⟨K, hKe⟩ : ∃ K : Act → World → Prop, K = fun a' w' => InvL v W0 g0 (listed.setIfInBounds 3 true) a' w' := ⟨_, rfl⟩
  have hK2 : Hid (∀ x w', Below w.heap.size w w' → PrL v g0 W0.heap.size 3 x w' → K (a.put (some 6) x) w') := Lib.hid (by rw [hKe]; exact hK.out)
  rw [← hKe]
  clear hKe hK
  have e1 : a.eval (.tmp 5) = .slice v.A1 v.r.path.length v.c1 := (PrL_2 (by decide) (by decide)).1 (h.at_ 2 (by omega) h1)
  rw [ev_eq] at e1
  have HC := Lib.hid (stepsC v.r.path v.A1 v.c1 w (E.now h.bel) h.box.rd.r1 (by omega))
  have hz := h.bel.size
  clear h
  go_simp
  refine HC.out.mono ?_
  rintro e w2 ⟨A, c, rfl, ho, hb⟩
  exact hK2.out _ _ hb ((PrL_3 (by decide) (by decide)).2 ⟨A, c, rfl, ho.lower hz⟩)
set_option maxRecDepth 100000 in
set_option maxHeartbeats 2000000 in
theorem stL_4 (h : InvL v W0 g0 listed a w) (E : Env W0) (hl : listed[4]? = some false) (h1 : listed[0]? = some true) (h2 : listed[3]? = some true) (hsm : v.r.path.length ≤ 40000) : wpOp Tryz.prog opsL Q 4 (fun a' w' => InvL v W0 g0 (listed.setIfInBounds 4 true) a' w') a w := by
  refine wpOp_at (o := .mk (some 7) (.call (.mk (.builtin .append) #[.tmp 3, .tmp 6] #[46, 46])) 46 "tabletext.go:37" #[.mk 0 .data, .mk 3 .data, .mk 3 .chain] none) rfl ?_
  have hK : Hid (∀ x w', Below w.heap.size w w' → PrL v g0 W0.heap.size 4 x w' → InvL v W0 g0 (listed.setIfInBounds 4 true) (a.put (some 7) x) w') := Lib.hid fun x w' hb hx => h.step (by omega) hb hx
  obtain ⟨K, hKe⟩ : ∃ K : Act → World → Prop, K = fun a' w' => InvL v W0 g0 (listed.setIfInBounds 4 true) a' w' := ⟨_, rfl⟩
  have hK2 : Hid (∀ x w', Below w.heap.size w w' → PrL v g0 W0.heap.size 4 x w' → K (a.put (some 7) x) w') := Lib.hid (by rw [hKe]; exact hK.out)
  rw [← hKe]
  clear hKe hK
  obtain ⟨g, e1, hgz, hB⟩ : ∃ g, a.eval (.tmp 3) = .slice (some ⟨g, 0, none⟩) 1 1 ∧ W0.heap.size ≤ g ∧ Blk w g 9 #[.string (bs pathW)] := (PrL_0 (by decide) (by decide)).1 (h.at_ 0 (by omega) h1)
  obtain ⟨A, c, e2, hO⟩ : ∃ A c, a.eval (.tmp 6) = .slice A (stpsW v.r.path).length c ∧ OwnR cS w W0.heap.size 9 (.slice A (stpsW v.r.path).length c) (stpsW v.r.path) 0 := (PrL_3 (by decide) (by decide)).1 (h.at_ 3 (by omega) h2)
  have hwl : (stpsW v.r.path).length ≤ 40000 := by rw [stpsW, List.length_map]; exact hsm
  have hz := h.bel.size
  obtain ⟨i0, hi0, hz0, hz1, hz2⟩ := info_parts infoStrT
  clear h
  obtain ⟨A', c', h0, h3, h4⟩ := hO.reads2
  simp only [Value.slice.injEq] at h0
  obtain ⟨rfl, _, rfl⟩ := h0
  by_cases hw0 : stpsW v.r.path = []
  · rw [hw0] at e2
    rw [if_pos (show Region.wanted _ _ = true by rfl)]
    refine Lib.wp_append_run w (.tmp 3) (.tmp 6) 46 46 rfl _ _ e1 e2 _ _ (run_app_zero w 46 _ 9 i0 Tryz.underlying46 hi0 g _ _) ?_
    refine hK2.out _ _ (Below.refl _ _) ((PrL_4 (by decide) (by decide)).2 ⟨some ⟨g, 0, none⟩, 1, ?_, ?_⟩)
    · show Value.slice _ 1 1 = .slice _ ((stpsW v.r.path).length + 1) 1; rw [hw0]; rfl
    · show OwnR cS w W0.heap.size 9 (.slice _ ((stpsW v.r.path).length + 1) 1) (pathW :: stpsW v.r.path) 0; rw [hw0]; exact one_own hB hgz (by decide)
  · have hl0 := List.length_pos_iff.2 hw0
    refine step_append_wordsNL rfl (.tmp 3) (.tmp 6) 46 rfl 9 i0 _ Tryz.underlying46 hi0 hz0 hz1 hz2 rfl g [pathW] 1 rfl e1 _ hB rfl A _ c (stpsW v.r.path) rfl (by simp; omega) hl0 e2 h4 (fun x hx => by (simp only [List.mem_singleton] at hx; subst hx; exact Nat.le_trans (show pathW.length ≤ 20 by decide) (by unfold maxLen; omega))) ((stpsW v.r.path).length + 1) (by simp) ?_
    intro A5 c5 w5 ho hb
    exact hK2.out _ _ hb ((PrL_4 (by decide) (by decide)).2 ⟨A5, c5, rfl, ho.lower hz⟩)
set_option maxRecDepth 100000 in
set_option maxHeartbeats 2000000 in
theorem stL_5 (h : InvL v W0 g0 listed a w) (E : Env W0) (hl : listed[5]? = some false) : wpOp Tryz.prog opsL Q 5 (fun a' w' => InvL v W0 g0 (listed.setIfInBounds 5 true) a' w') a w := by
  refine wpOp_at (o := .mk (some 8) (.buildSlice 46 1 #[(0, .const (.string (.mk #[112, 111, 105, 110, 116, 115])))]) 46 "tabletext.go:37" #[] none) rfl ?_
  have hK : Hid (∀ x w', Below w.heap.size w w' → PrL v g0 W0.heap.size 5 x w' → InvL v W0 g0 (listed.setIfInBounds 5 true) (a.put (some 8) x) w') := Lib.hid fun x w' hb hx => h.step (by omega) hb hx
  obtain ⟨K, hKe⟩ : ∃ K : Act → World → Prop, K = fun a' w' => InvL v W0 g0 (listed.setIfInBounds 5 true) a' w' := ⟨_, rfl⟩
  have hK2 : Hid (∀ x w', Below w.heap.size w w' → PrL v g0 W0.heap.size 5 x w' → K (a.put (some 8) x) w') := Lib.hid (by rw [hKe]; exact hK.out)
  rw [← hKe]
  clear hKe hK
  have hz := h.bel.size
  clear h
  go_simp
  exact hK2.out _ _ ((Below.refl _ _).alloc (Nat.le_refl _) _) ((PrL_0 (by decide) (by decide)).2 ⟨_, rfl, hz, Blk.new _ _ _ _ rfl⟩)
set_option maxRecDepth 100000 in
set_option maxHeartbeats 2000000 in
theorem stL_6 (h : InvL v W0 g0 listed a w) (E : Env W0) (hl : listed[6]? = some false) : wpOp Tryz.prog opsL Q 6 (fun a' w' => InvL v W0 g0 (listed.setIfInBounds 6 true) a' w') a w := by
  refine wpOp_at (o := .mk (some 9) (.fieldAddr 41 (.tmp 1) 4) 0 "tabletext.go:37" #[] none) rfl ?_
  have hK : Hid (∀ x w', Below w.heap.size w w' → PrL v g0 W0.heap.size 6 x w' → InvL v W0 g0 (listed.setIfInBounds 6 true) (a.put (some 9) x) w') := Lib.hid fun x w' hb hx => h.step (by omega) hb hx
  obtain ⟨K, hKe⟩ : ∃ K : Act → World → Prop, K = fun a' w' => InvL v W0 g0 (listed.setIfInBounds 6 true) a' w' := ⟨_, rfl⟩
  have hK2 : Hid (∀ x w', Below w.heap.size w w' → PrL v g0 W0.heap.size 6 x w' → K (a.put (some 9) x) w') := Lib.hid (by rw [hKe]; exact hK.out)
  rw [← hKe]
  clear hKe hK
  have e1 := h.t1
  rw [ev_eq] at e1
  clear h
  go_simp
  exact hK2.out _ _ (Below.refl _ _) ((PrL_1 (by decide) (by decide)).2 rfl)
set_option maxRecDepth 100000 in
set_option maxHeartbeats 2000000 in
theorem stL_7 (h : InvL v W0 g0 listed a w) (E : Env W0) (hl : listed[7]? = some false) (h1 : listed[6]? = some true) : wpOp Tryz.prog opsL Q 7 (fun a' w' => InvL v W0 g0 (listed.setIfInBounds 7 true) a' w') a w := by
  refine wpOp_at (o := .mk (some 10) (.load 38 (.tmp 9)) 38 "tabletext.go:37" #[.mk 6 .data] none) rfl ?_
  have hK : Hid (∀ x w', Below w.heap.size w w' → PrL v g0 W0.heap.size 7 x w' → InvL v W0 g0 (listed.setIfInBounds 7 true) (a.put (some 10) x) w') := Lib.hid fun x w' hb hx => h.step (by omega) hb hx
  obtain ⟨K, hKe⟩ : ∃ K : Act → World → Prop, K = fun a' w' => InvL v W0 g0 (listed.setIfInBounds 7 true) a' w' := ⟨_, rfl⟩
  have hK2 : Hid (∀ x w', Below w.heap.size w w' → PrL v g0 W0.heap.size 7 x w' → K (a.put (some 10) x) w') := Lib.hid (by rw [hKe]; exact hK.out)
  rw [← hKe]
  clear hKe hK
  have e1 : a.eval (.tmp 9) = .pointer (some ⟨g0, 4, none⟩) := (PrL_1 (by decide) (by decide)).1 (h.at_ 6 (by omega) h1)
  rw [ev_eq] at e1
  have x1 := h.box.x4
  clear h
  go_simp
  exact hK2.out _ _ (Below.refl _ _) ((PrL_2 (by decide) (by decide)).2 rfl)
set_option maxRecDepth 100000 in
set_option maxHeartbeats 2000000 in
theorem stL_8 (h : InvL v W0 g0 listed a w) (E : Env W0) (hl : listed[8]? = some false) (h1 : listed[7]? = some true) (hsm : v.r.pts.length ≤ 40000) : wpOp Tryz.prog opsL Q 8 (fun a' w' => InvL v W0 g0 (listed.setIfInBounds 8 true) a' w') a w := by
  refine wpOp_at (o := .mk (some 11) (.call (.mk (.value (.func 49)) #[.tmp 10] #[38])) 46 "tabletext.go:39" #[.mk 7 .data, .mk 4 .chain] none) rfl ?_
  have hK : Hid (∀ x w', Below w.heap.size w w' → PrL v g0 W0.heap.size 8 x w' → InvL v W0 g0 (listed.setIfInBounds 8 true) (a.put (some 11) x) w') := Lib.hid fun x w' hb hx => h.step (by omega) hb hx
  obtain ⟨K, hKe⟩ : ∃ K : Act → World → Prop, K = fun a' w' => InvL v W0 g0 (listed.setIfInBounds 8 true) a' w' := ⟨_, rfl⟩
  have hK2 : Hid (∀ x w', Below w.heap.size w w' → PrL v g0 W0.heap.size 8 x w' → K (a.put (some 11) x) w') := Lib.hid (by rw [hKe]; exact hK.out)
  rw [← hKe]
  clear hKe hK
  have e1 : a.eval (.tmp 10) = .slice v.A2 v.r.pts.length v.c2 := (PrL_2 (by decide) (by decide)).1 (h.at_ 7 (by omega) h1)
  rw [ev_eq] at e1
  have HC := Lib.hid (settingsC v.r.pts v.A2 v.c2 w (E.now h.bel) h.box.rd.r2 (by omega))
  have hz := h.bel.size
  clear h
  go_simp
  refine HC.out.mono ?_
  rintro e w2 ⟨A, c, rfl, ho, hb⟩
  exact hK2.out _ _ hb ((PrL_3 (by decide) (by decide)).2 ⟨A, c, rfl, ho.lower hz⟩)
set_option maxRecDepth 100000 in
set_option maxHeartbeats 2000000 in
theorem stL_9 (h : InvL v W0 g0 listed a w) (E : Env W0) (hl : listed[9]? = some false) (h1 : listed[5]? = some true) (h2 : listed[8]? = some true) (hsm : v.r.pts.length ≤ 40000) : wpOp Tryz.prog opsL Q 9 (fun a' w' => InvL v W0 g0 (listed.setIfInBounds 9 true) a' w') a w := by
  refine wpOp_at (o := .mk (some 12) (.call (.mk (.builtin .append) #[.tmp 8, .tmp 11] #[46, 46])) 46 "tabletext.go:37" #[.mk 5 .data, .mk 8 .data, .mk 8 .chain] none) rfl ?_
  have hK : Hid (∀ x w', Below w.heap.size w w' → PrL v g0 W0.heap.size 9 x w' → InvL v W0 g0 (listed.setIfInBounds 9 true) (a.put (some 12) x) w') := Lib.hid fun x w' hb hx => h.step (by omega) hb hx
  obtain ⟨K, hKe⟩ : ∃ K : Act → World → Prop, K = fun a' w' => InvL v W0 g0 (listed.setIfInBounds 9 true) a' w' := ⟨_, rfl⟩
  have hK2 : Hid (∀ x w', Below w.heap.size w w' → PrL v g0 W0.heap.size 9 x w' → K (a.put (some 12) x) w') := Lib.hid (by rw [hKe]; exact hK.out)
  rw [← hKe]
  clear hKe hK
  obtain ⟨g, e1, hgz, hB⟩ : ∃ g, a.eval (.tmp 8) = .slice (some ⟨g, 0, none⟩) 1 1 ∧ W0.heap.size ≤ g ∧ Blk w g 9 #[.string (bs pointsW)] := (PrL_0 (by decide) (by decide)).1 (h.at_ 5 (by omega) h1)
  obtain ⟨A, c, e2, hO⟩ : ∃ A c, a.eval (.tmp 11) = .slice A (stgsW v.r.pts).length c ∧ OwnR cS w W0.heap.size 9 (.slice A (stgsW v.r.pts).length c) (stgsW v.r.pts) 0 := (PrL_3 (by decide) (by decide)).1 (h.at_ 8 (by omega) h2)
  have hwl : (stgsW v.r.pts).length ≤ 40000 := by rw [stgsW, List.length_map]; exact hsm
  have hz := h.bel.size
  obtain ⟨i0, hi0, hz0, hz1, hz2⟩ := info_parts infoStrT
  clear h
  obtain ⟨A', c', h0, h3, h4⟩ := hO.reads2
  simp only [Value.slice.injEq] at h0
  obtain ⟨rfl, _, rfl⟩ := h0
  by_cases hw0 : stgsW v.r.pts = []
  · rw [hw0] at e2
    rw [if_pos (show Region.wanted _ _ = true by rfl)]
    refine Lib.wp_append_run w (.tmp 8) (.tmp 11) 46 46 rfl _ _ e1 e2 _ _ (run_app_zero w 46 _ 9 i0 Tryz.underlying46 hi0 g _ _) ?_
    refine hK2.out _ _ (Below.refl _ _) ((PrL_4 (by decide) (by decide)).2 ⟨some ⟨g, 0, none⟩, 1, ?_, ?_⟩)
    · show Value.slice _ 1 1 = .slice _ ((stgsW v.r.pts).length + 1) 1; rw [hw0]; rfl
    · show OwnR cS w W0.heap.size 9 (.slice _ ((stgsW v.r.pts).length + 1) 1) (pointsW :: stgsW v.r.pts) 0; rw [hw0]; exact one_own hB hgz (by decide)
  · have hl0 := List.length_pos_iff.2 hw0
    refine step_append_wordsNL rfl (.tmp 8) (.tmp 11) 46 rfl 9 i0 _ Tryz.underlying46 hi0 hz0 hz1 hz2 rfl g [pointsW] 1 rfl e1 _ hB rfl A _ c (stgsW v.r.pts) rfl (by simp; omega) hl0 e2 h4 (fun x hx => by (simp only [List.mem_singleton] at hx; subst hx; exact Nat.le_trans (show pointsW.length ≤ 20 by decide) (by unfold maxLen; omega))) ((stgsW v.r.pts).length + 1) (by simp) ?_
    intro A5 c5 w5 ho hb
    exact hK2.out _ _ hb ((PrL_4 (by decide) (by decide)).2 ⟨A5, c5, rfl, ho.lower hz⟩)
set_option maxRecDepth 100000 in
set_option maxHeartbeats 2000000 in
theorem stL_10 (h : InvL v W0 g0 listed a w) (E : Env W0) (hl : listed[10]? = some false) : wpOp Tryz.prog opsL Q 10 (fun a' w' => InvL v W0 g0 (listed.setIfInBounds 10 true) a' w') a w := by
  refine wpOp_at (o := .mk (some 13) (.buildSlice 46 1 #[(0, .const (.string (.mk #[115, 101, 99, 116, 105, 111, 110, 115])))]) 46 "tabletext.go:37" #[] none) rfl ?_
  have hK : Hid (∀ x w', Below w.heap.size w w' → PrL v g0 W0.heap.size 10 x w' → InvL v W0 g0 (listed.setIfInBounds 10 true) (a.put (some 13) x) w') := Lib.hid fun x w' hb hx => h.step (by omega) hb hx
  obtain ⟨K, hKe⟩ : ∃ K : Act → World → Prop, K = fun a' w' => InvL v W0 g0 (listed.setIfInBounds 10 true) a' w' := ⟨_, rfl⟩
  have hK2 : Hid (∀ x w', Below w.heap.size w w' → PrL v g0 W0.heap.size 10 x w' → K (a.put (some 13) x) w') := Lib.hid (by rw [hKe]; exact hK.out)
  rw [← hKe]
  clear hKe hK
  have hz := h.bel.size
  clear h
  go_simp
  exact hK2.out _ _ ((Below.refl _ _).alloc (Nat.le_refl _) _) ((PrL_0 (by decide) (by decide)).2 ⟨_, rfl, hz, Blk.new _ _ _ _ rfl⟩)
set_option maxRecDepth 100000 in
set_option maxHeartbeats 2000000 in
theorem stL_11 (h : InvL v W0 g0 listed a w) (E : Env W0) (hl : listed[11]? = some false) : wpOp Tryz.prog opsL Q 11 (fun a' w' => InvL v W0 g0 (listed.setIfInBounds 11 true) a' w') a w := by
  refine wpOp_at (o := .mk (some 14) (.fieldAddr 41 (.tmp 1) 5) 0 "tabletext.go:37" #[] none) rfl ?_
  have hK : Hid (∀ x w', Below w.heap.size w w' → PrL v g0 W0.heap.size 11 x w' → InvL v W0 g0 (listed.setIfInBounds 11 true) (a.put (some 14) x) w') := Lib.hid fun x w' hb hx => h.step (by omega) hb hx
  obtain ⟨K, hKe⟩ : ∃ K : Act → World → Prop, K = fun a' w' => InvL v W0 g0 (listed.setIfInBounds 11 true) a' w' := ⟨_, rfl⟩
  have hK2 : Hid (∀ x w', Below w.heap.size w w' → PrL v g0 W0.heap.size 11 x w' → K (a.put (some 14) x) w') := Lib.hid (by rw [hKe]; exact hK.out)
  rw [← hKe]
  clear hKe hK
  have e1 := h.t1
  rw [ev_eq] at e1
  clear h
  go_simp
  exact hK2.out _ _ (Below.refl _ _) ((PrL_1 (by decide) (by decide)).2 rfl)
set_option maxRecDepth 100000 in
set_option maxHeartbeats 2000000 in
theorem stL_12 (h : InvL v W0 g0 listed a w) (E : Env W0) (hl : listed[12]? = some false) (h1 : listed[11]? = some true) : wpOp Tryz.prog opsL Q 12 (fun a' w' => InvL v W0 g0 (listed.setIfInBounds 12 true) a' w') a w := by
  refine wpOp_at (o := .mk (some 15) (.load 23 (.tmp 14)) 23 "tabletext.go:37" #[.mk 11 .data] none) rfl ?_
  have hK : Hid (∀ x w', Below w.heap.size w w' → PrL v g0 W0.heap.size 12 x w' → InvL v W0 g0 (listed.setIfInBounds 12 true) (a.put (some 15) x) w') := Lib.hid fun x w' hb hx => h.step (by omega) hb hx
  obtain ⟨K, hKe⟩ : ∃ K : Act → World → Prop, K = fun a' w' => InvL v W0 g0 (listed.setIfInBounds 12 true) a' w' := ⟨_, rfl⟩
  have hK2 : Hid (∀ x w', Below w.heap.size w w' → PrL v g0 W0.heap.size 12 x w' → K (a.put (some 15) x) w') := Lib.hid (by rw [hKe]; exact hK.out)
  rw [← hKe]
  clear hKe hK
  have e1 : a.eval (.tmp 14) = .pointer (some ⟨g0, 5, none⟩) := (PrL_1 (by decide) (by decide)).1 (h.at_ 11 (by omega) h1)
  rw [ev_eq] at e1
  have x1 := h.box.x5
  clear h
  go_simp
  exact hK2.out _ _ (Below.refl _ _) ((PrL_2 (by decide) (by decide)).2 rfl)
set_option maxRecDepth 100000 in
set_option maxHeartbeats 2000000 in
theorem stL_13 (h : InvL v W0 g0 listed a w) (E : Env W0) (hl : listed[13]? = some false) (h1 : listed[12]? = some true) (hsm : v.r.secs.length ≤ 40000) : wpOp Tryz.prog opsL Q 13 (fun a' w' => InvL v W0 g0 (listed.setIfInBounds 13 true) a' w') a w := by
  refine wpOp_at (o := .mk (some 16) (.call (.mk (.value (.func 50)) #[.tmp 15] #[23])) 46 "tabletext.go:40" #[.mk 12 .data, .mk 9 .chain] none) rfl ?_
  have hK : Hid (∀ x w', Below w.heap.size w w' → PrL v g0 W0.heap.size 13 x w' → InvL v W0 g0 (listed.setIfInBounds 13 true) (a.put (some 16) x) w') := Lib.hid fun x w' hb hx => h.step (by omega) hb hx
  obtain ⟨K, hKe⟩ : ∃ K : Act → World → Prop, K = fun a' w' => InvL v W0 g0 (listed.setIfInBounds 13 true) a' w' := ⟨_, rfl⟩
  have hK2 : Hid (∀ x w', Below w.heap.size w w' → PrL v g0 W0.heap.size 13 x w' → K (a.put (some 16) x) w') := Lib.hid (by rw [hKe]; exact hK.out)
  rw [← hKe]
  clear hKe hK
  have e1 : a.eval (.tmp 15) = .slice v.A3 v.r.secs.length v.c3 := (PrL_2 (by decide) (by decide)).1 (h.at_ 12 (by omega) h1)
  rw [ev_eq] at e1
  have HC := Lib.hid (numbersC v.r.secs v.A3 v.c3 w (E.now h.bel) h.box.rd.r3 (by omega))
  have hz := h.bel.size
  clear h
  go_simp
  refine HC.out.mono ?_
  rintro e w2 ⟨A, c, rfl, ho, hb⟩
  exact hK2.out _ _ hb ((PrL_3 (by decide) (by decide)).2 ⟨A, c, rfl, ho.lower hz⟩)
set_option maxRecDepth 100000 in
set_option maxHeartbeats 2000000 in
theorem stL_14 (h : InvL v W0 g0 listed a w) (E : Env W0) (hl : listed[14]? = some false) (h1 : listed[10]? = some true) (h2 : listed[13]? = some true) (hsm : v.r.secs.length ≤ 40000) : wpOp Tryz.prog opsL Q 14 (fun a' w' => InvL v W0 g0 (listed.setIfInBounds 14 true) a' w') a w := by
  refine wpOp_at (o := .mk (some 17) (.call (.mk (.builtin .append) #[.tmp 13, .tmp 16] #[46, 46])) 46 "tabletext.go:37" #[.mk 10 .data, .mk 13 .data, .mk 13 .chain] none) rfl ?_
  have hK : Hid (∀ x w', Below w.heap.size w w' → PrL v g0 W0.heap.size 14 x w' → InvL v W0 g0 (listed.setIfInBounds 14 true) (a.put (some 17) x) w') := Lib.hid fun x w' hb hx => h.step (by omega) hb hx
  obtain ⟨K, hKe⟩ : ∃ K : Act → World → Prop, K = fun a' w' => InvL v W0 g0 (listed.setIfInBounds 14 true) a' w' := ⟨_, rfl⟩
  have hK2 : Hid (∀ x w', Below w.heap.size w w' → PrL v g0 W0.heap.size 14 x w' → K (a.put (some 17) x) w') := Lib.hid (by rw [hKe]; exact hK.out)
  rw [← hKe]
  clear hKe hK
  obtain ⟨g, e1, hgz, hB⟩ : ∃ g, a.eval (.tmp 13) = .slice (some ⟨g, 0, none⟩) 1 1 ∧ W0.heap.size ≤ g ∧ Blk w g 9 #[.string (bs sectionsW)] := (PrL_0 (by decide) (by decide)).1 (h.at_ 10 (by omega) h1)
  obtain ⟨A, c, e2, hO⟩ : ∃ A c, a.eval (.tmp 16) = .slice A (numsW v.r.secs).length c ∧ OwnR cS w W0.heap.size 9 (.slice A (numsW v.r.secs).length c) (numsW v.r.secs) 0 := (PrL_3 (by decide) (by decide)).1 (h.at_ 13 (by omega) h2)
  have hwl : (numsW v.r.secs).length ≤ 40000 := by rw [numsW, List.length_map]; exact hsm
  have hz := h.bel.size
  obtain ⟨i0, hi0, hz0, hz1, hz2⟩ := info_parts infoStrT
  clear h
  obtain ⟨A', c', h0, h3, h4⟩ := hO.reads2
  simp only [Value.slice.injEq] at h0
  obtain ⟨rfl, _, rfl⟩ := h0
  by_cases hw0 : numsW v.r.secs = []
  · rw [hw0] at e2
    rw [if_pos (show Region.wanted _ _ = true by rfl)]
    refine Lib.wp_append_run w (.tmp 13) (.tmp 16) 46 46 rfl _ _ e1 e2 _ _ (run_app_zero w 46 _ 9 i0 Tryz.underlying46 hi0 g _ _) ?_
    refine hK2.out _ _ (Below.refl _ _) ((PrL_4 (by decide) (by decide)).2 ⟨some ⟨g, 0, none⟩, 1, ?_, ?_⟩)
    · show Value.slice _ 1 1 = .slice _ ((numsW v.r.secs).length + 1) 1; rw [hw0]; rfl
    · show OwnR cS w W0.heap.size 9 (.slice _ ((numsW v.r.secs).length + 1) 1) (sectionsW :: numsW v.r.secs) 0; rw [hw0]; exact one_own hB hgz (by decide)
  · have hl0 := List.length_pos_iff.2 hw0
    refine step_append_wordsNL rfl (.tmp 13) (.tmp 16) 46 rfl 9 i0 _ Tryz.underlying46 hi0 hz0 hz1 hz2 rfl g [sectionsW] 1 rfl e1 _ hB rfl A _ c (numsW v.r.secs) rfl (by simp; omega) hl0 e2 h4 (fun x hx => by (simp only [List.mem_singleton] at hx; subst hx; exact Nat.le_trans (show sectionsW.length ≤ 20 by decide) (by unfold maxLen; omega))) ((numsW v.r.secs).length + 1) (by simp) ?_
    intro A5 c5 w5 ho hb
    exact hK2.out _ _ hb ((PrL_4 (by decide) (by decide)).2 ⟨A5, c5, rfl, ho.lower hz⟩)
set_option maxRecDepth 100000 in
set_option maxHeartbeats 2000000 in
theorem stL_15 (h : InvL v W0 g0 listed a w) (E : Env W0) (hl : listed[15]? = some false) : wpOp Tryz.prog opsL Q 15 (fun a' w' => InvL v W0 g0 (listed.setIfInBounds 15 true) a' w') a w := by
  refine wpOp_at (o := .mk (some 18) (.buildSlice 46 1 #[(0, .const (.string (.mk #[111, 118, 101, 114])))]) 46 "tabletext.go:37" #[] none) rfl ?_
  have hK : Hid (∀ x w', Below w.heap.size w w' → PrL v g0 W0.heap.size 15 x w' → InvL v W0 g0 (listed.setIfInBounds 15 true) (a.put (some 18) x) w') := Lib.hid fun x w' hb hx => h.step (by omega) hb hx
  obtain ⟨K, hKe⟩ : ∃ K : Act → World → Prop, K = fun a' w' => InvL v W0 g0 (listed.setIfInBounds 15 true) a' w' := ⟨_, rfl⟩
  have hK2 : Hid (∀ x w', Below w.heap.size w w' → PrL v g0 W0.heap.size 15 x w' → K (a.put (some 18) x) w') := Lib.hid (by rw [hKe]; exact hK.out)
  rw [← hKe]
  clear hKe hK
  have hz := h.bel.size
  clear h
  go_simp
  exact hK2.out _ _ ((Below.refl _ _).alloc (Nat.le_refl _) _) ((PrL_0 (by decide) (by decide)).2 ⟨_, rfl, hz, Blk.new _ _ _ _ rfl⟩)
set_option maxRecDepth 100000 in
set_option maxHeartbeats 2000000 in
theorem stL_16 (h : InvL v W0 g0 listed a w) (E : Env W0) (hl : listed[16]? = some false) : wpOp Tryz.prog opsL Q 16 (fun a' w' => InvL v W0 g0 (listed.setIfInBounds 16 true) a' w') a w := by
  refine wpOp_at (o := .mk (some 19) (.fieldAddr 41 (.tmp 1) 8) 0 "tabletext.go:37" #[] none) rfl ?_
  have hK : Hid (∀ x w', Below w.heap.size w w' → PrL v g0 W0.heap.size 16 x w' → InvL v W0 g0 (listed.setIfInBounds 16 true) (a.put (some 19) x) w') := Lib.hid fun x w' hb hx => h.step (by omega) hb hx
  obtain ⟨K, hKe⟩ : ∃ K : Act → World → Prop, K = fun a' w' => InvL v W0 g0 (listed.setIfInBounds 16 true) a' w' := ⟨_, rfl⟩
  have hK2 : Hid (∀ x w', Below w.heap.size w w' → PrL v g0 W0.heap.size 16 x w' → K (a.put (some 19) x) w') := Lib.hid (by rw [hKe]; exact hK.out)
  rw [← hKe]
  clear hKe hK
  have e1 := h.t1
  rw [ev_eq] at e1
  clear h
  go_simp
  exact hK2.out _ _ (Below.refl _ _) ((PrL_1 (by decide) (by decide)).2 rfl)
set_option maxRecDepth 100000 in
set_option maxHeartbeats 2000000 in
theorem stL_17 (h : InvL v W0 g0 listed a w) (E : Env W0) (hl : listed[17]? = some false) (h1 : listed[16]? = some true) : wpOp Tryz.prog opsL Q 17 (fun a' w' => InvL v W0 g0 (listed.setIfInBounds 17 true) a' w') a w := by
  refine wpOp_at (o := .mk (some 20) (.load 37 (.tmp 19)) 37 "tabletext.go:37" #[.mk 16 .data] none) rfl ?_
  have hK : Hid (∀ x w', Below w.heap.size w w' → PrL v g0 W0.heap.size 17 x w' → InvL v W0 g0 (listed.setIfInBounds 17 true) (a.put (some 20) x) w') := Lib.hid fun x w' hb hx => h.step (by omega) hb hx
  obtain ⟨K, hKe⟩ : ∃ K : Act → World → Prop, K = fun a' w' => InvL v W0 g0 (listed.setIfInBounds 17 true) a' w' := ⟨_, rfl⟩
  have hK2 : Hid (∀ x w', Below w.heap.size w w' → PrL v g0 W0.heap.size 17 x w' → K (a.put (some 20) x) w') := Lib.hid (by rw [hKe]; exact hK.out)
  rw [← hKe]
  clear hKe hK
  have e1 : a.eval (.tmp 19) = .pointer (some ⟨g0, 8, none⟩) := (PrL_1 (by decide) (by decide)).1 (h.at_ 16 (by omega) h1)
  rw [ev_eq] at e1
  have x1 := h.box.x8
  clear h
  go_simp
  exact hK2.out _ _ (Below.refl _ _) ((PrL_2 (by decide) (by decide)).2 rfl)
set_option maxRecDepth 100000 in
set_option maxHeartbeats 2000000 in
theorem stL_18 (h : InvL v W0 g0 listed a w) (E : Env W0) (hl : listed[18]? = some false) (h1 : listed[17]? = some true) (hsm : v.r.over.length ≤ 40000) : wpOp Tryz.prog opsL Q 18 (fun a' w' => InvL v W0 g0 (listed.setIfInBounds 18 true) a' w') a w := by
  refine wpOp_at (o := .mk (some 21) (.call (.mk (.value (.func 48)) #[.tmp 20] #[37])) 46 "tabletext.go:41" #[.mk 17 .data, .mk 14 .chain] none) rfl ?_
  have hK : Hid (∀ x w', Below w.heap.size w w' → PrL v g0 W0.heap.size 18 x w' → InvL v W0 g0 (listed.setIfInBounds 18 true) (a.put (some 21) x) w') := Lib.hid fun x w' hb hx => h.step (by omega) hb hx
  obtain ⟨K, hKe⟩ : ∃ K : Act → World → Prop, K = fun a' w' => InvL v W0 g0 (listed.setIfInBounds 18 true) a' w' := ⟨_, rfl⟩
  have hK2 : Hid (∀ x w', Below w.heap.size w w' → PrL v g0 W0.heap.size 18 x w' → K (a.put (some 21) x) w') := Lib.hid (by rw [hKe]; exact hK.out)
  rw [← hKe]
  clear hKe hK
  have e1 : a.eval (.tmp 20) = .slice v.A4 v.r.over.length v.c4 := (PrL_2 (by decide) (by decide)).1 (h.at_ 17 (by omega) h1)
  rw [ev_eq] at e1
  have HC := Lib.hid (stepsC v.r.over v.A4 v.c4 w (E.now h.bel) h.box.rd.r4 (by omega))
  have hz := h.bel.size
  clear h
  go_simp
  refine HC.out.mono ?_
  rintro e w2 ⟨A, c, rfl, ho, hb⟩
  exact hK2.out _ _ hb ((PrL_3 (by decide) (by decide)).2 ⟨A, c, rfl, ho.lower hz⟩)
set_option maxRecDepth 100000 in
set_option maxHeartbeats 2000000 in
theorem stL_19 (h : InvL v W0 g0 listed a w) (E : Env W0) (hl : listed[19]? = some false) (h1 : listed[15]? = some true) (h2 : listed[18]? = some true) (hsm : v.r.over.length ≤ 40000) : wpOp Tryz.prog opsL Q 19 (fun a' w' => InvL v W0 g0 (listed.setIfInBounds 19 true) a' w') a w := by
  refine wpOp_at (o := .mk (some 22) (.call (.mk (.builtin .append) #[.tmp 18, .tmp 21] #[46, 46])) 46 "tabletext.go:37" #[.mk 15 .data, .mk 18 .data, .mk 18 .chain] none) rfl ?_
  have hK : Hid (∀ x w', Below w.heap.size w w' → PrL v g0 W0.heap.size 19 x w' → InvL v W0 g0 (listed.setIfInBounds 19 true) (a.put (some 22) x) w') := Lib.hid fun x w' hb hx => h.step (by omega) hb hx
  obtain ⟨K, hKe⟩ : ∃ K : Act → World → Prop, K = fun a' w' => InvL v W0 g0 (listed.setIfInBounds 19 true) a' w' := ⟨_, rfl⟩
  have hK2 : Hid (∀ x w', Below w.heap.size w w' → PrL v g0 W0.heap.size 19 x w' → K (a.put (some 22) x) w') := Lib.hid (by rw [hKe]; exact hK.out)
  rw [← hKe]
  clear hKe hK
  obtain ⟨g, e1, hgz, hB⟩ : ∃ g, a.eval (.tmp 18) = .slice (some ⟨g, 0, none⟩) 1 1 ∧ W0.heap.size ≤ g ∧ Blk w g 9 #[.string (bs overW)] := (PrL_0 (by decide) (by decide)).1 (h.at_ 15 (by omega) h1)
  obtain ⟨A, c, e2, hO⟩ : ∃ A c, a.eval (.tmp 21) = .slice A (stpsW v.r.over).length c ∧ OwnR cS w W0.heap.size 9 (.slice A (stpsW v.r.over).length c) (stpsW v.r.over) 0 := (PrL_3 (by decide) (by decide)).1 (h.at_ 18 (by omega) h2)
  have hwl : (stpsW v.r.over).length ≤ 40000 := by rw [stpsW, List.length_map]; exact hsm
  have hz := h.bel.size
  obtain ⟨i0, hi0, hz0, hz1, hz2⟩ := info_parts infoStrT
  clear h
  obtain ⟨A', c', h0, h3, h4⟩ := hO.reads2
  simp only [Value.slice.injEq] at h0
  obtain ⟨rfl, _, rfl⟩ := h0
  by_cases hw0 : stpsW v.r.over = []
  · rw [hw0] at e2
    rw [if_pos (show Region.wanted _ _ = true by rfl)]
    refine Lib.wp_append_run w (.tmp 18) (.tmp 21) 46 46 rfl _ _ e1 e2 _ _ (run_app_zero w 46 _ 9 i0 Tryz.underlying46 hi0 g _ _) ?_
    refine hK2.out _ _ (Below.refl _ _) ((PrL_4 (by decide) (by decide)).2 ⟨some ⟨g, 0, none⟩, 1, ?_, ?_⟩)
    · show Value.slice _ 1 1 = .slice _ ((stpsW v.r.over).length + 1) 1; rw [hw0]; rfl
    · show OwnR cS w W0.heap.size 9 (.slice _ ((stpsW v.r.over).length + 1) 1) (overW :: stpsW v.r.over) 0; rw [hw0]; exact one_own hB hgz (by decide)
  · have hl0 := List.length_pos_iff.2 hw0
    refine step_append_wordsNL rfl (.tmp 18) (.tmp 21) 46 rfl 9 i0 _ Tryz.underlying46 hi0 hz0 hz1 hz2 rfl g [overW] 1 rfl e1 _ hB rfl A _ c (stpsW v.r.over) rfl (by simp; omega) hl0 e2 h4 (fun x hx => by (simp only [List.mem_singleton] at hx; subst hx; exact Nat.le_trans (show overW.length ≤ 20 by decide) (by unfold maxLen; omega))) ((stpsW v.r.over).length + 1) (by simp) ?_
    intro A5 c5 w5 ho hb
    exact hK2.out _ _ hb ((PrL_4 (by decide) (by decide)).2 ⟨A5, c5, rfl, ho.lower hz⟩)
set_option maxRecDepth 100000 in
set_option maxHeartbeats 2000000 in
theorem stL_20 (h : InvL v W0 g0 listed a w) (E : Env W0) (hl : listed[20]? = some false) : wpOp Tryz.prog opsL Q 20 (fun a' w' => InvL v W0 g0 (listed.setIfInBounds 20 true) a' w') a w := by
  refine wpOp_at (o := .mk (some 23) (.buildSlice 46 1 #[(0, .const (.string (.mk #[111, 118, 101, 114, 112, 111, 105, 110, 116, 115])))]) 46 "tabletext.go:37" #[] none) rfl ?_
  have hK : Hid (∀ x w', Below w.heap.size w w' → PrL v g0 W0.heap.size 20 x w' → InvL v W0 g0 (listed.setIfInBounds 20 true) (a.put (some 23) x) w') := Lib.hid fun x w' hb hx => h.step (by omega) hb hx
  obtain ⟨K, hKe⟩ : ∃ K : Act → World → Prop, K = fun a' w' => InvL v W0 g0 (listed.setIfInBounds 20 true) a' w' := ⟨_, rfl⟩
  have hK2 : Hid (∀ x w', Below w.heap.size w w' → PrL v g0 W0.heap.size 20 x w' → K (a.put (some 23) x) w') := Lib.hid (by rw [hKe]; exact hK.out)
  rw [← hKe]
  clear hKe hK
  have hz := h.bel.size
  clear h
  go_simp
  exact hK2.out _ _ ((Below.refl _ _).alloc (Nat.le_refl _) _) ((PrL_0 (by decide) (by decide)).2 ⟨_, rfl, hz, Blk.new _ _ _ _ rfl⟩)
set_option maxRecDepth 100000 in
set_option maxHeartbeats 2000000 in
theorem stL_21 (h : InvL v W0 g0 listed a w) (E : Env W0) (hl : listed[21]? = some false) : wpOp Tryz.prog opsL Q 21 (fun a' w' => InvL v W0 g0 (listed.setIfInBounds 21 true) a' w') a w := by
  refine wpOp_at (o := .mk (some 24) (.fieldAddr 41 (.tmp 1) 9) 0 "tabletext.go:37" #[] none) rfl ?_
  have hK : Hid (∀ x w', Below w.heap.size w w' → PrL v g0 W0.heap.size 21 x w' → InvL v W0 g0 (listed.setIfInBounds 21 true) (a.put (some 24) x) w') := Lib.hid fun x w' hb hx => h.step (by omega) hb hx
  obtain ⟨K, hKe⟩ : ∃ K : Act → World → Prop, K = fun a' w' => InvL v W0 g0 (listed.setIfInBounds 21 true) a' w' := ⟨_, rfl⟩
  have hK2 : Hid (∀ x w', Below w.heap.size w w' → PrL v g0 W0.heap.size 21 x w' → K (a.put (some 24) x) w') := Lib.hid (by rw [hKe]; exact hK.out)
  rw [← hKe]
  clear hKe hK
  have e1 := h.t1
  rw [ev_eq] at e1
  clear h
  go_simp
  exact hK2.out _ _ (Below.refl _ _) ((PrL_1 (by decide) (by decide)).2 rfl)
set_option maxRecDepth 100000 in
set_option maxHeartbeats 2000000 in
theorem stL_22 (h : InvL v W0 g0 listed a w) (E : Env W0) (hl : listed[22]? = some false) (h1 : listed[21]? = some true) : wpOp Tryz.prog opsL Q 22 (fun a' w' => InvL v W0 g0 (listed.setIfInBounds 22 true) a' w') a w := by
  refine wpOp_at (o := .mk (some 25) (.load 38 (.tmp 24)) 38 "tabletext.go:37" #[.mk 21 .data] none) rfl ?_
  have hK : Hid (∀ x w', Below w.heap.size w w' → PrL v g0 W0.heap.size 22 x w' → InvL v W0 g0 (listed.setIfInBounds 22 true) (a.put (some 25) x) w') := Lib.hid fun x w' hb hx => h.step (by omega) hb hx
  obtain ⟨K, hKe⟩ : ∃ K : Act → World → Prop, K = fun a' w' => InvL v W0 g0 (listed.setIfInBounds 22 true) a' w' := ⟨_, rfl⟩
  have hK2 : Hid (∀ x w', Below w.heap.size w w' → PrL v g0 W0.heap.size 22 x w' → K (a.put (some 25) x) w') := Lib.hid (by rw [hKe]; exact hK.out)
  rw [← hKe]
  clear hKe hK
  have e1 : a.eval (.tmp 24) = .pointer (some ⟨g0, 9, none⟩) := (PrL_1 (by decide) (by decide)).1 (h.at_ 21 (by omega) h1)
  rw [ev_eq] at e1
  have x1 := h.box.x9
  clear h
  go_simp
  exact hK2.out _ _ (Below.refl _ _) ((PrL_2 (by decide) (by decide)).2 rfl)
set_option maxRecDepth 100000 in
set_option maxHeartbeats 2000000 in
theorem stL_23 (h : InvL v W0 g0 listed a w) (E : Env W0) (hl : listed[23]? = some false) (h1 : listed[22]? = some true) (hsm : v.r.opts.length ≤ 40000) : wpOp Tryz.prog opsL Q 23 (fun a' w' => InvL v W0 g0 (listed.setIfInBounds 23 true) a' w') a w := by
  refine wpOp_at (o := .mk (some 26) (.call (.mk (.value (.func 49)) #[.tmp 25] #[38])) 46 "tabletext.go:42" #[.mk 22 .data, .mk 19 .chain] none) rfl ?_
  have hK : Hid (∀ x w', Below w.heap.size w w' → PrL v g0 W0.heap.size 23 x w' → InvL v W0 g0 (listed.setIfInBounds 23 true) (a.put (some 26) x) w') := Lib.hid fun x w' hb hx => h.step (by omega) hb hx
  obtain ⟨K, hKe⟩ : ∃ K : Act → World → Prop, K = fun a' w' => InvL v W0 g0 (listed.setIfInBounds 23 true) a' w' := ⟨_, rfl⟩
  have hK2 : Hid (∀ x w', Below w.heap.size w w' → PrL v g0 W0.heap.size 23 x w' → K (a.put (some 26) x) w') := Lib.hid (by rw [hKe]; exact hK.out)
  rw [← hKe]
  clear hKe hK
  have e1 : a.eval (.tmp 25) = .slice v.A5 v.r.opts.length v.c5 := (PrL_2 (by decide) (by decide)).1 (h.at_ 22 (by omega) h1)
  rw [ev_eq] at e1
  have HC := Lib.hid (settingsC v.r.opts v.A5 v.c5 w (E.now h.bel) h.box.rd.r5 (by omega))
  have hz := h.bel.size
  clear h
  go_simp
  refine HC.out.mono ?_
  rintro e w2 ⟨A, c, rfl, ho, hb⟩
  exact hK2.out _ _ hb ((PrL_3 (by decide) (by decide)).2 ⟨A, c, rfl, ho.lower hz⟩)
set_option maxRecDepth 100000 in
set_option maxHeartbeats 2000000 in
theorem stL_24 (h : InvL v W0 g0 listed a w) (E : Env W0) (hl : listed[24]? = some false) (h1 : listed[20]? = some true) (h2 : listed[23]? = some true) (hsm : v.r.opts.length ≤ 40000) : wpOp Tryz.prog opsL Q 24 (fun a' w' => InvL v W0 g0 (listed.setIfInBounds 24 true) a' w') a w := by
  refine wpOp_at (o := .mk (some 27) (.call (.mk (.builtin .append) #[.tmp 23, .tmp 26] #[46, 46])) 46 "tabletext.go:37" #[.mk 20 .data, .mk 23 .data, .mk 23 .chain] none) rfl ?_
  have hK : Hid (∀ x w', Below w.heap.size w w' → PrL v g0 W0.heap.size 24 x w' → InvL v W0 g0 (listed.setIfInBounds 24 true) (a.put (some 27) x) w') := Lib.hid fun x w' hb hx => h.step (by omega) hb hx
  obtain ⟨K, hKe⟩ : ∃ K : Act → World → Prop, K = fun a' w' => InvL v W0 g0 (listed.setIfInBounds 24 true) a' w' := ⟨_, rfl⟩
  have hK2 : Hid (∀ x w', Below w.heap.size w w' → PrL v g0 W0.heap.size 24 x w' → K (a.put (some 27) x) w') := Lib.hid (by rw [hKe]; exact hK.out)
  rw [← hKe]
  clear hKe hK
  obtain ⟨g, e1, hgz, hB⟩ : ∃ g, a.eval (.tmp 23) = .slice (some ⟨g, 0, none⟩) 1 1 ∧ W0.heap.size ≤ g ∧ Blk w g 9 #[.string (bs overpointsW)] := (PrL_0 (by decide) (by decide)).1 (h.at_ 20 (by omega) h1)
  obtain ⟨A, c, e2, hO⟩ : ∃ A c, a.eval (.tmp 26) = .slice A (stgsW v.r.opts).length c ∧ OwnR cS w W0.heap.size 9 (.slice A (stgsW v.r.opts).length c) (stgsW v.r.opts) 0 := (PrL_3 (by decide) (by decide)).1 (h.at_ 23 (by omega) h2)
  have hwl : (stgsW v.r.opts).length ≤ 40000 := by rw [stgsW, List.length_map]; exact hsm
  have hz := h.bel.size
  obtain ⟨i0, hi0, hz0, hz1, hz2⟩ := info_parts infoStrT
  clear h
  obtain ⟨A', c', h0, h3, h4⟩ := hO.reads2
  simp only [Value.slice.injEq] at h0
  obtain ⟨rfl, _, rfl⟩ := h0
  by_cases hw0 : stgsW v.r.opts = []
  · rw [hw0] at e2
    rw [if_pos (show Region.wanted _ _ = true by rfl)]
    refine Lib.wp_append_run w (.tmp 23) (.tmp 26) 46 46 rfl _ _ e1 e2 _ _ (run_app_zero w 46 _ 9 i0 Tryz.underlying46 hi0 g _ _) ?_
    refine hK2.out _ _ (Below.refl _ _) ((PrL_4 (by decide) (by decide)).2 ⟨some ⟨g, 0, none⟩, 1, ?_, ?_⟩)
    · show Value.slice _ 1 1 = .slice _ ((stgsW v.r.opts).length + 1) 1; rw [hw0]; rfl
    · show OwnR cS w W0.heap.size 9 (.slice _ ((stgsW v.r.opts).length + 1) 1) (overpointsW :: stgsW v.r.opts) 0; rw [hw0]; exact one_own hB hgz (by decide)
  · have hl0 := List.length_pos_iff.2 hw0
    refine step_append_wordsNL rfl (.tmp 23) (.tmp 26) 46 rfl 9 i0 _ Tryz.underlying46 hi0 hz0 hz1 hz2 rfl g [overpointsW] 1 rfl e1 _ hB rfl A _ c (stgsW v.r.opts) rfl (by simp; omega) hl0 e2 h4 (fun x hx => by (simp only [List.mem_singleton] at hx; subst hx; exact Nat.le_trans (show overpointsW.length ≤ 20 by decide) (by unfold maxLen; omega))) ((stgsW v.r.opts).length + 1) (by simp) ?_
    intro A5 c5 w5 ho hb
    exact hK2.out _ _ hb ((PrL_4 (by decide) (by decide)).2 ⟨A5, c5, rfl, ho.lower hz⟩)
set_option maxRecDepth 100000 in
set_option maxHeartbeats 2000000 in
theorem stL_25 (h : InvL v W0 g0 listed a w) (E : Env W0) (hl : listed[25]? = some false) : wpOp Tryz.prog opsL Q 25 (fun a' w' => InvL v W0 g0 (listed.setIfInBounds 25 true) a' w') a w := by
  refine wpOp_at (o := .mk (some 28) (.buildSlice 46 1 #[(0, .const (.string (.mk #[111, 118, 101, 114, 115, 101, 99, 116, 105, 111, 110, 115])))]) 46 "tabletext.go:37" #[] none) rfl ?_
  have hK : Hid (∀ x w', Below w.heap.size w w' → PrL v g0 W0.heap.size 25 x w' → InvL v W0 g0 (listed.setIfInBounds 25 true) (a.put (some 28) x) w') := Lib.hid fun x w' hb hx => h.step (by omega) hb hx
  obtain ⟨K, hKe⟩ : ∃ K : Act → World → Prop, K = fun a' w' => InvL v W0 g0 (listed.setIfInBounds 25 true) a' w' := ⟨_, rfl⟩
  have hK2 : Hid (∀ x w', Below w.heap.size w w' → PrL v g0 W0.heap.size 25 x w' → K (a.put (some 28) x) w') := Lib.hid (by rw [hKe]; exact hK.out)
  rw [← hKe]
  clear hKe hK
  have hz := h.bel.size
  clear h
  go_simp
  exact hK2.out _ _ ((Below.refl _ _).alloc (Nat.le_refl _) _) ((PrL_0 (by decide) (by decide)).2 ⟨_, rfl, hz, Blk.new _ _ _ _ rfl⟩)
set_option maxRecDepth 100000 in
set_option maxHeartbeats 2000000 in
theorem stL_26 (h : InvL v W0 g0 listed a w) (E : Env W0) (hl : listed[26]? = some false) : wpOp Tryz.prog opsL Q 26 (fun a' w' => InvL v W0 g0 (listed.setIfInBounds 26 true) a' w') a w := by
  refine wpOp_at (o := .mk (some 29) (.fieldAddr 41 (.tmp 1) 10) 0 "tabletext.go:37" #[] none) rfl ?_
  have hK : Hid (∀ x w', Below w.heap.size w w' → PrL v g0 W0.heap.size 26 x w' → InvL v W0 g0 (listed.setIfInBounds 26 true) (a.put (some 29) x) w') := Lib.hid fun x w' hb hx => h.step (by omega) hb hx
  obtain ⟨K, hKe⟩ : ∃ K : Act → World → Prop, K = fun a' w' => InvL v W0 g0 (listed.setIfInBounds 26 true) a' w' := ⟨_, rfl⟩
  have hK2 : Hid (∀ x w', Below w.heap.size w w' → PrL v g0 W0.heap.size 26 x w' → K (a.put (some 29) x) w') := Lib.hid (by rw [hKe]; exact hK.out)
  rw [← hKe]
  clear hKe hK
  have e1 := h.t1
  rw [ev_eq] at e1
  clear h
  go_simp
  exact hK2.out _ _ (Below.refl _ _) ((PrL_1 (by decide) (by decide)).2 rfl)
set_option maxRecDepth 100000 in
set_option maxHeartbeats 2000000 in
theorem stL_27 (h : InvL v W0 g0 listed a w) (E : Env W0) (hl : listed[27]? = some false) (h1 : listed[26]? = some true) : wpOp Tryz.prog opsL Q 27 (fun a' w' => InvL v W0 g0 (listed.setIfInBounds 27 true) a' w') a w := by
  refine wpOp_at (o := .mk (some 30) (.load 23 (.tmp 29)) 23 "tabletext.go:37" #[.mk 26 .data] none) rfl ?_
  have hK : Hid (∀ x w', Below w.heap.size w w' → PrL v g0 W0.heap.size 27 x w' → InvL v W0 g0 (listed.setIfInBounds 27 true) (a.put (some 30) x) w') := Lib.hid fun x w' hb hx => h.step (by omega) hb hx
  obtain ⟨K, hKe⟩ : ∃ K : Act → World → Prop, K = fun a' w' => InvL v W0 g0 (listed.setIfInBounds 27 true) a' w' := ⟨_, rfl⟩
  have hK2 : Hid (∀ x w', Below w.heap.size w w' → PrL v g0 W0.heap.size 27 x w' → K (a.put (some 30) x) w') := Lib.hid (by rw [hKe]; exact hK.out)
  rw [← hKe]
  clear hKe hK
  have e1 : a.eval (.tmp 29) = .pointer (some ⟨g0, 10, none⟩) := (PrL_1 (by decide) (by decide)).1 (h.at_ 26 (by omega) h1)
  rw [ev_eq] at e1
  have x1 := h.box.x10
  clear h
  go_simp
  exact hK2.out _ _ (Below.refl _ _) ((PrL_2 (by decide) (by decide)).2 rfl)
set_option maxRecDepth 100000 in
set_option maxHeartbeats 2000000 in
theorem stL_28 (h : InvL v W0 g0 listed a w) (E : Env W0) (hl : listed[28]? = some false) (h1 : listed[27]? = some true) (hsm : v.r.osecs.length ≤ 40000) : wpOp Tryz.prog opsL Q 28 (fun a' w' => InvL v W0 g0 (listed.setIfInBounds 28 true) a' w') a w := by
  refine wpOp_at (o := .mk (some 31) (.call (.mk (.value (.func 50)) #[.tmp 30] #[23])) 46 "tabletext.go:43" #[.mk 27 .data, .mk 24 .chain] none) rfl ?_
  have hK : Hid (∀ x w', Below w.heap.size w w' → PrL v g0 W0.heap.size 28 x w' → InvL v W0 g0 (listed.setIfInBounds 28 true) (a.put (some 31) x) w') := Lib.hid fun x w' hb hx => h.step (by omega) hb hx
  obtain ⟨K, hKe⟩ : ∃ K : Act → World → Prop, K = fun a' w' => InvL v W0 g0 (listed.setIfInBounds 28 true) a' w' := ⟨_, rfl⟩
  have hK2 : Hid (∀ x w', Below w.heap.size w w' → PrL v g0 W0.heap.size 28 x w' → K (a.put (some 31) x) w') := Lib.hid (by rw [hKe]; exact hK.out)
  rw [← hKe]
  clear hKe hK
  have e1 : a.eval (.tmp 30) = .slice v.A6 v.r.osecs.length v.c6 := (PrL_2 (by decide) (by decide)).1 (h.at_ 27 (by omega) h1)
  rw [ev_eq] at e1
  have HC := Lib.hid (numbersC v.r.osecs v.A6 v.c6 w (E.now h.bel) h.box.rd.r6 (by omega))
  have hz := h.bel.size
  clear h
  go_simp
  refine HC.out.mono ?_
  rintro e w2 ⟨A, c, rfl, ho, hb⟩
  exact hK2.out _ _ hb ((PrL_3 (by decide) (by decide)).2 ⟨A, c, rfl, ho.lower hz⟩)
set_option maxRecDepth 100000 in
set_option maxHeartbeats 2000000 in
theorem stL_29 (h : InvL v W0 g0 listed a w) (E : Env W0) (hl : listed[29]? = some false) (h1 : listed[25]? = some true) (h2 : listed[28]? = some true) (hsm : v.r.osecs.length ≤ 40000) : wpOp Tryz.prog opsL Q 29 (fun a' w' => InvL v W0 g0 (listed.setIfInBounds 29 true) a' w') a w := by
  refine wpOp_at (o := .mk (some 32) (.call (.mk (.builtin .append) #[.tmp 28, .tmp 31] #[46, 46])) 46 "tabletext.go:37" #[.mk 25 .data, .mk 28 .data, .mk 28 .chain] none) rfl ?_
  have hK : Hid (∀ x w', Below w.heap.size w w' → PrL v g0 W0.heap.size 29 x w' → InvL v W0 g0 (listed.setIfInBounds 29 true) (a.put (some 32) x) w') := Lib.hid fun x w' hb hx => h.step (by omega) hb hx
  obtain ⟨K, hKe⟩ : ∃ K : Act → World → Prop, K = fun a' w' => InvL v W0 g0 (listed.setIfInBounds 29 true) a' w' := ⟨_, rfl⟩
  have hK2 : Hid (∀ x w', Below w.heap.size w w' → PrL v g0 W0.heap.size 29 x w' → K (a.put (some 32) x) w') := Lib.hid (by rw [hKe]; exact hK.out)
  rw [← hKe]
  clear hKe hK
  obtain ⟨g, e1, hgz, hB⟩ : ∃ g, a.eval (.tmp 28) = .slice (some ⟨g, 0, none⟩) 1 1 ∧ W0.heap.size ≤ g ∧ Blk w g 9 #[.string (bs oversectionsW)] := (PrL_0 (by decide) (by decide)).1 (h.at_ 25 (by omega) h1)
  obtain ⟨A, c, e2, hO⟩ : ∃ A c, a.eval (.tmp 31) = .slice A (numsW v.r.osecs).length c ∧ OwnR cS w W0.heap.size 9 (.slice A (numsW v.r.osecs).length c) (numsW v.r.osecs) 0 := (PrL_3 (by decide) (by decide)).1 (h.at_ 28 (by omega) h2)
  have hwl : (numsW v.r.osecs).length ≤ 40000 := by rw [numsW, List.length_map]; exact hsm
  have hz := h.bel.size
  obtain ⟨i0, hi0, hz0, hz1, hz2⟩ := info_parts infoStrT
  clear h
  obtain ⟨A', c', h0, h3, h4⟩ := hO.reads2
  simp only [Value.slice.injEq] at h0
  obtain ⟨rfl, _, rfl⟩ := h0
  by_cases hw0 : numsW v.r.osecs = []
  · rw [hw0] at e2
    rw [if_pos (show Region.wanted _ _ = true by rfl)]
    refine Lib.wp_append_run w (.tmp 28) (.tmp 31) 46 46 rfl _ _ e1 e2 _ _ (run_app_zero w 46 _ 9 i0 Tryz.underlying46 hi0 g _ _) ?_
    refine hK2.out _ _ (Below.refl _ _) ((PrL_4 (by decide) (by decide)).2 ⟨some ⟨g, 0, none⟩, 1, ?_, ?_⟩)
    · show Value.slice _ 1 1 = .slice _ ((numsW v.r.osecs).length + 1) 1; rw [hw0]; rfl
    · show OwnR cS w W0.heap.size 9 (.slice _ ((numsW v.r.osecs).length + 1) 1) (oversectionsW :: numsW v.r.osecs) 0; rw [hw0]; exact one_own hB hgz (by decide)
  · have hl0 := List.length_pos_iff.2 hw0
    refine step_append_wordsNL rfl (.tmp 28) (.tmp 31) 46 rfl 9 i0 _ Tryz.underlying46 hi0 hz0 hz1 hz2 rfl g [oversectionsW] 1 rfl e1 _ hB rfl A _ c (numsW v.r.osecs) rfl (by simp; omega) hl0 e2 h4 (fun x hx => by (simp only [List.mem_singleton] at hx; subst hx; exact Nat.le_trans (show oversectionsW.length ≤ 20 by decide) (by unfold maxLen; omega))) ((numsW v.r.osecs).length + 1) (by simp) ?_
    intro A5 c5 w5 ho hb
    exact hK2.out _ _ hb ((PrL_4 (by decide) (by decide)).2 ⟨A5, c5, rfl, ho.lower hz⟩)
set_option maxRecDepth 100000 in
set_option maxHeartbeats 2000000 in
theorem stL_30 (h : InvL v W0 g0 listed a w) (E : Env W0) (hl : listed[30]? = some false) : wpOp Tryz.prog opsL Q 30 (fun a' w' => InvL v W0 g0 (listed.setIfInBounds 30 true) a' w') a w := by
  refine wpOp_at (o := .mk (some 33) (.buildSlice 46 1 #[(0, .const (.string (.mk #[102, 108, 97, 110, 107])))]) 46 "tabletext.go:37" #[] none) rfl ?_
  have hK : Hid (∀ x w', Below w.heap.size w w' → PrL v g0 W0.heap.size 30 x w' → InvL v W0 g0 (listed.setIfInBounds 30 true) (a.put (some 33) x) w') := Lib.hid fun x w' hb hx => h.step (by omega) hb hx
  obtain ⟨K, hKe⟩ : ∃ K : Act → World → Prop, K = fun a' w' => InvL v W0 g0 (listed.setIfInBounds 30 true) a' w' := ⟨_, rfl⟩
  have hK2 : Hid (∀ x w', Below w.heap.size w w' → PrL v g0 W0.heap.size 30 x w' → K (a.put (some 33) x) w') := Lib.hid (by rw [hKe]; exact hK.out)
  rw [← hKe]
  clear hKe hK
  have hz := h.bel.size
  clear h
  go_simp
  exact hK2.out _ _ ((Below.refl _ _).alloc (Nat.le_refl _) _) ((PrL_0 (by decide) (by decide)).2 ⟨_, rfl, hz, Blk.new _ _ _ _ rfl⟩)
set_option maxRecDepth 100000 in
set_option maxHeartbeats 2000000 in
theorem stL_31 (h : InvL v W0 g0 listed a w) (E : Env W0) (hl : listed[31]? = some false) : wpOp Tryz.prog opsL Q 31 (fun a' w' => InvL v W0 g0 (listed.setIfInBounds 31 true) a' w') a w := by
  refine wpOp_at (o := .mk (some 34) (.fieldAddr 41 (.tmp 1) 11) 0 "tabletext.go:37" #[] none) rfl ?_
  have hK : Hid (∀ x w', Below w.heap.size w w' → PrL v g0 W0.heap.size 31 x w' → InvL v W0 g0 (listed.setIfInBounds 31 true) (a.put (some 34) x) w') := Lib.hid fun x w' hb hx => h.step (by omega) hb hx
  obtain ⟨K, hKe⟩ : ∃ K : Act → World → Prop, K = fun a' w' => InvL v W0 g0 (listed.setIfInBounds 31 true) a' w' := ⟨_, rfl⟩
  have hK2 : Hid (∀ x w', Below w.heap.size w w' → PrL v g0 W0.heap.size 31 x w' → K (a.put (some 34) x) w') := Lib.hid (by rw [hKe]; exact hK.out)
  rw [← hKe]
  clear hKe hK
  have e1 := h.t1
  rw [ev_eq] at e1
  clear h
  go_simp
  exact hK2.out _ _ (Below.refl _ _) ((PrL_1 (by decide) (by decide)).2 rfl)
set_option maxRecDepth 100000 in
set_option maxHeartbeats 2000000 in
theorem stL_32 (h : InvL v W0 g0 listed a w) (E : Env W0) (hl : listed[32]? = some false) (h1 : listed[31]? = some true) : wpOp Tryz.prog opsL Q 32 (fun a' w' => InvL v W0 g0 (listed.setIfInBounds 32 true) a' w') a w := by
  refine wpOp_at (o := .mk (some 35) (.load 38 (.tmp 34)) 38 "tabletext.go:37" #[.mk 31 .data] none) rfl ?_
  have hK : Hid (∀ x w', Below w.heap.size w w' → PrL v g0 W0.heap.size 32 x w' → InvL v W0 g0 (listed.setIfInBounds 32 true) (a.put (some 35) x) w') := Lib.hid fun x w' hb hx => h.step (by omega) hb hx
  obtain ⟨K, hKe⟩ : ∃ K : Act → World → Prop, K = fun a' w' => InvL v W0 g0 (listed.setIfInBounds 32 true) a' w' := ⟨_, rfl⟩
  have hK2 : Hid (∀ x w', Below w.heap.size w w' → PrL v g0 W0.heap.size 32 x w' → K (a.put (some 35) x) w') := Lib.hid (by rw [hKe]; exact hK.out)
  rw [← hKe]
  clear hKe hK
  have e1 : a.eval (.tmp 34) = .pointer (some ⟨g0, 11, none⟩) := (PrL_1 (by decide) (by decide)).1 (h.at_ 31 (by omega) h1)
  rw [ev_eq] at e1
  have x1 := h.box.x11
  clear h
  go_simp
  exact hK2.out _ _ (Below.refl _ _) ((PrL_2 (by decide) (by decide)).2 rfl)
set_option maxRecDepth 100000 in
set_option maxHeartbeats 2000000 in
theorem stL_33 (h : InvL v W0 g0 listed a w) (E : Env W0) (hl : listed[33]? = some false) (h1 : listed[32]? = some true) (hsm : v.r.flk.length ≤ 40000) : wpOp Tryz.prog opsL Q 33 (fun a' w' => InvL v W0 g0 (listed.setIfInBounds 33 true) a' w') a w := by
  refine wpOp_at (o := .mk (some 36) (.call (.mk (.value (.func 49)) #[.tmp 35] #[38])) 46 "tabletext.go:44" #[.mk 32 .data, .mk 29 .chain] none) rfl ?_
  have hK : Hid (∀ x w', Below w.heap.size w w' → PrL v g0 W0.heap.size 33 x w' → InvL v W0 g0 (listed.setIfInBounds 33 true) (a.put (some 36) x) w') := Lib.hid fun x w' hb hx => h.step (by omega) hb hx
  obtain ⟨K, hKe⟩ : ∃ K : Act → World → Prop, K = fun a' w' => InvL v W0 g0 (listed.setIfInBounds 33 true) a' w' := ⟨_, rfl⟩
  have hK2 : Hid (∀ x w', Below w.heap.size w w' → PrL v g0 W0.heap.size 33 x w' → K (a.put (some 36) x) w') := Lib.hid (by rw [hKe]; exact hK.out)
  rw [← hKe]
  clear hKe hK
  have e1 : a.eval (.tmp 35) = .slice v.A7 v.r.flk.length v.c7 := (PrL_2 (by decide) (by decide)).1 (h.at_ 32 (by omega) h1)
  rw [ev_eq] at e1
  have HC := Lib.hid (settingsC v.r.flk v.A7 v.c7 w (E.now h.bel) h.box.rd.r7 (by omega))
  have hz := h.bel.size
  clear h
  go_simp
  refine HC.out.mono ?_
  rintro e w2 ⟨A, c, rfl, ho, hb⟩
  exact hK2.out _ _ hb ((PrL_3 (by decide) (by decide)).2 ⟨A, c, rfl, ho.lower hz⟩)
set_option maxRecDepth 100000 in
set_option maxHeartbeats 2000000 in
theorem stL_34 (h : InvL v W0 g0 listed a w) (E : Env W0) (hl : listed[34]? = some false) (h1 : listed[30]? = some true) (h2 : listed[33]? = some true) (hsm : v.r.flk.length ≤ 40000) : wpOp Tryz.prog opsL Q 34 (fun a' w' => InvL v W0 g0 (listed.setIfInBounds 34 true) a' w') a w := by
  refine wpOp_at (o := .mk (some 37) (.call (.mk (.builtin .append) #[.tmp 33, .tmp 36] #[46, 46])) 46 "tabletext.go:37" #[.mk 30 .data, .mk 33 .data, .mk 33 .chain] none) rfl ?_
  have hK : Hid (∀ x w', Below w.heap.size w w' → PrL v g0 W0.heap.size 34 x w' → InvL v W0 g0 (listed.setIfInBounds 34 true) (a.put (some 37) x) w') := Lib.hid fun x w' hb hx => h.step (by omega) hb hx
  obtain ⟨K, hKe⟩ : ∃ K : Act → World → Prop, K = fun a' w' => InvL v W0 g0 (listed.setIfInBounds 34 true) a' w' := ⟨_, rfl⟩
  have hK2 : Hid (∀ x w', Below w.heap.size w w' → PrL v g0 W0.heap.size 34 x w' → K (a.put (some 37) x) w') := Lib.hid (by rw [hKe]; exact hK.out)
  rw [← hKe]
  clear hKe hK
  obtain ⟨g, e1, hgz, hB⟩ : ∃ g, a.eval (.tmp 33) = .slice (some ⟨g, 0, none⟩) 1 1 ∧ W0.heap.size ≤ g ∧ Blk w g 9 #[.string (bs flankW)] := (PrL_0 (by decide) (by decide)).1 (h.at_ 30 (by omega) h1)
  obtain ⟨A, c, e2, hO⟩ : ∃ A c, a.eval (.tmp 36) = .slice A (stgsW v.r.flk).length c ∧ OwnR cS w W0.heap.size 9 (.slice A (stgsW v.r.flk).length c) (stgsW v.r.flk) 0 := (PrL_3 (by decide) (by decide)).1 (h.at_ 33 (by omega) h2)
  have hwl : (stgsW v.r.flk).length ≤ 40000 := by rw [stgsW, List.length_map]; exact hsm
  have hz := h.bel.size
  obtain ⟨i0, hi0, hz0, hz1, hz2⟩ := info_parts infoStrT
  clear h
  obtain ⟨A', c', h0, h3, h4⟩ := hO.reads2
  simp only [Value.slice.injEq] at h0
  obtain ⟨rfl, _, rfl⟩ := h0
  by_cases hw0 : stgsW v.r.flk = []
  · rw [hw0] at e2
    rw [if_pos (show Region.wanted _ _ = true by rfl)]
    refine Lib.wp_append_run w (.tmp 33) (.tmp 36) 46 46 rfl _ _ e1 e2 _ _ (run_app_zero w 46 _ 9 i0 Tryz.underlying46 hi0 g _ _) ?_
    refine hK2.out _ _ (Below.refl _ _) ((PrL_4 (by decide) (by decide)).2 ⟨some ⟨g, 0, none⟩, 1, ?_, ?_⟩)
    · show Value.slice _ 1 1 = .slice _ ((stgsW v.r.flk).length + 1) 1; rw [hw0]; rfl
    · show OwnR cS w W0.heap.size 9 (.slice _ ((stgsW v.r.flk).length + 1) 1) (flankW :: stgsW v.r.flk) 0; rw [hw0]; exact one_own hB hgz (by decide)
  · have hl0 := List.length_pos_iff.2 hw0
    refine step_append_wordsNL rfl (.tmp 33) (.tmp 36) 46 rfl 9 i0 _ Tryz.underlying46 hi0 hz0 hz1 hz2 rfl g [flankW] 1 rfl e1 _ hB rfl A _ c (stgsW v.r.flk) rfl (by simp; omega) hl0 e2 h4 (fun x hx => by (simp only [List.mem_singleton] at hx; subst hx; exact Nat.le_trans (show flankW.length ≤ 20 by decide) (by unfold maxLen; omega))) ((stgsW v.r.flk).length + 1) (by simp) ?_
    intro A5 c5 w5 ho hb
    exact hK2.out _ _ hb ((PrL_4 (by decide) (by decide)).2 ⟨A5, c5, rfl, ho.lower hz⟩)
set_option maxRecDepth 100000 in
set_option maxHeartbeats 2000000 in
theorem stL_35 (h : InvL v W0 g0 listed a w) (E : Env W0) (hl : listed[35]? = some false) : wpOp Tryz.prog opsL Q 35 (fun a' w' => InvL v W0 g0 (listed.setIfInBounds 35 true) a' w') a w := by
  refine wpOp_at (o := .mk (some 38) (.buildSlice 46 1 #[(0, .const (.string (.mk #[103, 117, 97, 114, 100, 115])))]) 46 "tabletext.go:37" #[] none) rfl ?_
  have hK : Hid (∀ x w', Below w.heap.size w w' → PrL v g0 W0.heap.size 35 x w' → InvL v W0 g0 (listed.setIfInBounds 35 true) (a.put (some 38) x) w') := Lib.hid fun x w' hb hx => h.step (by omega) hb hx
  obtain ⟨K, hKe⟩ : ∃ K : Act → World → Prop, K = fun a' w' => InvL v W0 g0 (listed.setIfInBounds 35 true) a' w' := ⟨_, rfl⟩
  have hK2 : Hid (∀ x w', Below w.heap.size w w' → PrL v g0 W0.heap.size 35 x w' → K (a.put (some 38) x) w') := Lib.hid (by rw [hKe]; exact hK.out)
  rw [← hKe]
  clear hKe hK
  have hz := h.bel.size
  clear h
  go_simp
  exact hK2.out _ _ ((Below.refl _ _).alloc (Nat.le_refl _) _) ((PrL_0 (by decide) (by decide)).2 ⟨_, rfl, hz, Blk.new _ _ _ _ rfl⟩)
set_option maxRecDepth 100000 in
set_option maxHeartbeats 2000000 in
theorem stL_36 (h : InvL v W0 g0 listed a w) (E : Env W0) (hl : listed[36]? = some false) : wpOp Tryz.prog opsL Q 36 (fun a' w' => InvL v W0 g0 (listed.setIfInBounds 36 true) a' w') a w := by
  refine wpOp_at (o := .mk (some 39) (.fieldAddr 41 (.tmp 1) 12) 0 "tabletext.go:37" #[] none) rfl ?_
  have hK : Hid (∀ x w', Below w.heap.size w w' → PrL v g0 W0.heap.size 36 x w' → InvL v W0 g0 (listed.setIfInBounds 36 true) (a.put (some 39) x) w') := Lib.hid fun x w' hb hx => h.step (by omega) hb hx
  obtain ⟨K, hKe⟩ : ∃ K : Act → World → Prop, K = fun a' w' => InvL v W0 g0 (listed.setIfInBounds 36 true) a' w' := ⟨_, rfl⟩
  have hK2 : Hid (∀ x w', Below w.heap.size w w' → PrL v g0 W0.heap.size 36 x w' → K (a.put (some 39) x) w') := Lib.hid (by rw [hKe]; exact hK.out)
  rw [← hKe]
  clear hKe hK
  have e1 := h.t1
  rw [ev_eq] at e1
  clear h
  go_simp
  exact hK2.out _ _ (Below.refl _ _) ((PrL_1 (by decide) (by decide)).2 rfl)
set_option maxRecDepth 100000 in
set_option maxHeartbeats 2000000 in
theorem stL_37 (h : InvL v W0 g0 listed a w) (E : Env W0) (hl : listed[37]? = some false) (h1 : listed[36]? = some true) : wpOp Tryz.prog opsL Q 37 (fun a' w' => InvL v W0 g0 (listed.setIfInBounds 37 true) a' w') a w := by
  refine wpOp_at (o := .mk (some 40) (.load 23 (.tmp 39)) 23 "tabletext.go:37" #[.mk 36 .data] none) rfl ?_
  have hK : Hid (∀ x w', Below w.heap.size w w' → PrL v g0 W0.heap.size 37 x w' → InvL v W0 g0 (listed.setIfInBounds 37 true) (a.put (some 40) x) w') := Lib.hid fun x w' hb hx => h.step (by omega) hb hx
  obtain ⟨K, hKe⟩ : ∃ K : Act → World → Prop, K = fun a' w' => InvL v W0 g0 (listed.setIfInBounds 37 true) a' w' := ⟨_, rfl⟩
  have hK2 : Hid (∀ x w', Below w.heap.size w w' → PrL v g0 W0.heap.size 37 x w' → K (a.put (some 40) x) w') := Lib.hid (by rw [hKe]; exact hK.out)
  rw [← hKe]
  clear hKe hK
  have e1 : a.eval (.tmp 39) = .pointer (some ⟨g0, 12, none⟩) := (PrL_1 (by decide) (by decide)).1 (h.at_ 36 (by omega) h1)
  rw [ev_eq] at e1
  have x1 := h.box.x12
  clear h
  go_simp
  exact hK2.out _ _ (Below.refl _ _) ((PrL_2 (by decide) (by decide)).2 rfl)
set_option maxRecDepth 100000 in
set_option maxHeartbeats 2000000 in
theorem stL_38 (h : InvL v W0 g0 listed a w) (E : Env W0) (hl : listed[38]? = some false) (h1 : listed[37]? = some true) (hsm : v.r.grd.length ≤ 40000) : wpOp Tryz.prog opsL Q 38 (fun a' w' => InvL v W0 g0 (listed.setIfInBounds 38 true) a' w') a w := by
  refine wpOp_at (o := .mk (some 41) (.call (.mk (.value (.func 50)) #[.tmp 40] #[23])) 46 "tabletext.go:45" #[.mk 37 .data, .mk 34 .chain] none) rfl ?_
  have hK : Hid (∀ x w', Below w.heap.size w w' → PrL v g0 W0.heap.size 38 x w' → InvL v W0 g0 (listed.setIfInBounds 38 true) (a.put (some 41) x) w') := Lib.hid fun x w' hb hx => h.step (by omega) hb hx
  obtain ⟨K, hKe⟩ : ∃ K : Act → World → Prop, K = fun a' w' => InvL v W0 g0 (listed.setIfInBounds 38 true) a' w' := ⟨_, rfl⟩
  have hK2 : Hid (∀ x w', Below w.heap.size w w' → PrL v g0 W0.heap.size 38 x w' → K (a.put (some 41) x) w') := Lib.hid (by rw [hKe]; exact hK.out)
  rw [← hKe]
  clear hKe hK
  have e1 : a.eval (.tmp 40) = .slice v.A8 v.r.grd.length v.c8 := (PrL_2 (by decide) (by decide)).1 (h.at_ 37 (by omega) h1)
  rw [ev_eq] at e1
  have HC := Lib.hid (numbersC v.r.grd v.A8 v.c8 w (E.now h.bel) h.box.rd.r8 (by omega))
  have hz := h.bel.size
  clear h
  go_simp
  refine HC.out.mono ?_
  rintro e w2 ⟨A, c, rfl, ho, hb⟩
  exact hK2.out _ _ hb ((PrL_3 (by decide) (by decide)).2 ⟨A, c, rfl, ho.lower hz⟩)
set_option maxRecDepth 100000 in
set_option maxHeartbeats 2000000 in
theorem stL_39 (h : InvL v W0 g0 listed a w) (E : Env W0) (hl : listed[39]? = some false) (h1 : listed[35]? = some true) (h2 : listed[38]? = some true) (hsm : v.r.grd.length ≤ 40000) : wpOp Tryz.prog opsL Q 39 (fun a' w' => InvL v W0 g0 (listed.setIfInBounds 39 true) a' w') a w := by
  refine wpOp_at (o := .mk (some 42) (.call (.mk (.builtin .append) #[.tmp 38, .tmp 41] #[46, 46])) 46 "tabletext.go:37" #[.mk 35 .data, .mk 38 .data, .mk 38 .chain] none) rfl ?_
  have hK : Hid (∀ x w', Below w.heap.size w w' → PrL v g0 W0.heap.size 39 x w' → InvL v W0 g0 (listed.setIfInBounds 39 true) (a.put (some 42) x) w') := Lib.hid fun x w' hb hx => h.step (by omega) hb hx
  obtain ⟨K, hKe⟩ : ∃ K : Act → World → Prop, K = fun a' w' => InvL v W0 g0 (listed.setIfInBounds 39 true) a' w' := ⟨_, rfl⟩
  have hK2 : Hid (∀ x w', Below w.heap.size w w' → PrL v g0 W0.heap.size 39 x w' → K (a.put (some 42) x) w') := Lib.hid (by rw [hKe]; exact hK.out)
  rw [← hKe]
  clear hKe hK
  obtain ⟨g, e1, hgz, hB⟩ : ∃ g, a.eval (.tmp 38) = .slice (some ⟨g, 0, none⟩) 1 1 ∧ W0.heap.size ≤ g ∧ Blk w g 9 #[.string (bs guardsW)] := (PrL_0 (by decide) (by decide)).1 (h.at_ 35 (by omega) h1)
  obtain ⟨A, c, e2, hO⟩ : ∃ A c, a.eval (.tmp 41) = .slice A (numsW v.r.grd).length c ∧ OwnR cS w W0.heap.size 9 (.slice A (numsW v.r.grd).length c) (numsW v.r.grd) 0 := (PrL_3 (by decide) (by decide)).1 (h.at_ 38 (by omega) h2)
  have hwl : (numsW v.r.grd).length ≤ 40000 := by rw [numsW, List.length_map]; exact hsm
  have hz := h.bel.size
  obtain ⟨i0, hi0, hz0, hz1, hz2⟩ := info_parts infoStrT
  clear h
  obtain ⟨A', c', h0, h3, h4⟩ := hO.reads2
  simp only [Value.slice.injEq] at h0
  obtain ⟨rfl, _, rfl⟩ := h0
  by_cases hw0 : numsW v.r.grd = []
  · rw [hw0] at e2
    rw [if_pos (show Region.wanted _ _ = true by rfl)]
    refine Lib.wp_append_run w (.tmp 38) (.tmp 41) 46 46 rfl _ _ e1 e2 _ _ (run_app_zero w 46 _ 9 i0 Tryz.underlying46 hi0 g _ _) ?_
    refine hK2.out _ _ (Below.refl _ _) ((PrL_4 (by decide) (by decide)).2 ⟨some ⟨g, 0, none⟩, 1, ?_, ?_⟩)
    · show Value.slice _ 1 1 = .slice _ ((numsW v.r.grd).length + 1) 1; rw [hw0]; rfl
    · show OwnR cS w W0.heap.size 9 (.slice _ ((numsW v.r.grd).length + 1) 1) (guardsW :: numsW v.r.grd) 0; rw [hw0]; exact one_own hB hgz (by decide)
  · have hl0 := List.length_pos_iff.2 hw0
    refine step_append_wordsNL rfl (.tmp 38) (.tmp 41) 46 rfl 9 i0 _ Tryz.underlying46 hi0 hz0 hz1 hz2 rfl g [guardsW] 1 rfl e1 _ hB rfl A _ c (numsW v.r.grd) rfl (by simp; omega) hl0 e2 h4 (fun x hx => by (simp only [List.mem_singleton] at hx; subst hx; exact Nat.le_trans (show guardsW.length ≤ 20 by decide) (by unfold maxLen; omega))) ((numsW v.r.grd).length + 1) (by simp) ?_
    intro A5 c5 w5 ho hb
    exact hK2.out _ _ hb ((PrL_4 (by decide) (by decide)).2 ⟨A5, c5, rfl, ho.lower hz⟩)
set_option maxRecDepth 100000 in
set_option maxHeartbeats 2000000 in
theorem stL_40 (h : InvL v W0 g0 listed a w) (E : Env W0) (hl : listed[40]? = some false) : wpOp Tryz.prog opsL Q 40 (fun a' w' => InvL v W0 g0 (listed.setIfInBounds 40 true) a' w') a w := by
  refine wpOp_at (o := .mk (some 43) (.buildSlice 46 1 #[(0, .const (.string (.mk #[103, 97, 112, 115])))]) 46 "tabletext.go:37" #[] none) rfl ?_
  have hK : Hid (∀ x w', Below w.heap.size w w' → PrL v g0 W0.heap.size 40 x w' → InvL v W0 g0 (listed.setIfInBounds 40 true) (a.put (some 43) x) w') := Lib.hid fun x w' hb hx => h.step (by omega) hb hx
  obtain ⟨K, hKe⟩ : ∃ K : Act → World → Prop, K = fun a' w' => InvL v W0 g0 (listed.setIfInBounds 40 true) a' w' := ⟨_, rfl⟩
  have hK2 : Hid (∀ x w', Below w.heap.size w w' → PrL v g0 W0.heap.size 40 x w' → K (a.put (some 43) x) w') := Lib.hid (by rw [hKe]; exact hK.out)
  rw [← hKe]
  clear hKe hK
  have hz := h.bel.size
  clear h
  go_simp
  exact hK2.out _ _ ((Below.refl _ _).alloc (Nat.le_refl _) _) ((PrL_0 (by decide) (by decide)).2 ⟨_, rfl, hz, Blk.new _ _ _ _ rfl⟩)
set_option maxRecDepth 100000 in
set_option maxHeartbeats 2000000 in
theorem stL_41 (h : InvL v W0 g0 listed a w) (E : Env W0) (hl : listed[41]? = some false) : wpOp Tryz.prog opsL Q 41 (fun a' w' => InvL v W0 g0 (listed.setIfInBounds 41 true) a' w') a w := by
  refine wpOp_at (o := .mk (some 44) (.fieldAddr 41 (.tmp 1) 13) 0 "tabletext.go:37" #[] none) rfl ?_
  have hK : Hid (∀ x w', Below w.heap.size w w' → PrL v g0 W0.heap.size 41 x w' → InvL v W0 g0 (listed.setIfInBounds 41 true) (a.put (some 44) x) w') := Lib.hid fun x w' hb hx => h.step (by omega) hb hx
  obtain ⟨K, hKe⟩ : ∃ K : Act → World → Prop, K = fun a' w' => InvL v W0 g0 (listed.setIfInBounds 41 true) a' w' := ⟨_, rfl⟩
  have hK2 : Hid (∀ x w', Below w.heap.size w w' → PrL v g0 W0.heap.size 41 x w' → K (a.put (some 44) x) w') := Lib.hid (by rw [hKe]; exact hK.out)
  rw [← hKe]
  clear hKe hK
  have e1 := h.t1
  rw [ev_eq] at e1
  clear h
  go_simp
  exact hK2.out _ _ (Below.refl _ _) ((PrL_1 (by decide) (by decide)).2 rfl)
set_option maxRecDepth 100000 in
set_option maxHeartbeats 2000000 in
theorem stL_42 (h : InvL v W0 g0 listed a w) (E : Env W0) (hl : listed[42]? = some false) (h1 : listed[41]? = some true) : wpOp Tryz.prog opsL Q 42 (fun a' w' => InvL v W0 g0 (listed.setIfInBounds 42 true) a' w') a w := by
  refine wpOp_at (o := .mk (some 45) (.load 39 (.tmp 44)) 39 "tabletext.go:37" #[.mk 41 .data] none) rfl ?_
  have hK : Hid (∀ x w', Below w.heap.size w w' → PrL v g0 W0.heap.size 42 x w' → InvL v W0 g0 (listed.setIfInBounds 42 true) (a.put (some 45) x) w') := Lib.hid fun x w' hb hx => h.step (by omega) hb hx
  obtain ⟨K, hKe⟩ : ∃ K : Act → World → Prop, K = fun a' w' => InvL v W0 g0 (listed.setIfInBounds 42 true) a' w' := ⟨_, rfl⟩
  have hK2 : Hid (∀ x w', Below w.heap.size w w' → PrL v g0 W0.heap.size 42 x w' → K (a.put (some 45) x) w') := Lib.hid (by rw [hKe]; exact hK.out)
  rw [← hKe]
  clear hKe hK
  have e1 : a.eval (.tmp 44) = .pointer (some ⟨g0, 13, none⟩) := (PrL_1 (by decide) (by decide)).1 (h.at_ 41 (by omega) h1)
  rw [ev_eq] at e1
  have x1 := h.box.x13
  clear h
  go_simp
  exact hK2.out _ _ (Below.refl _ _) ((PrL_2 (by decide) (by decide)).2 rfl)
set_option maxRecDepth 100000 in
set_option maxHeartbeats 2000000 in
theorem stL_43 (h : InvL v W0 g0 listed a w) (E : Env W0) (hl : listed[43]? = some false) (h1 : listed[42]? = some true) (hsm : v.r.gap.length ≤ 40000) : wpOp Tryz.prog opsL Q 43 (fun a' w' => InvL v W0 g0 (listed.setIfInBounds 43 true) a' w') a w := by
  refine wpOp_at (o := .mk (some 46) (.call (.mk (.value (.func 51)) #[.tmp 45] #[39])) 46 "tabletext.go:46" #[.mk 42 .data, .mk 39 .chain] none) rfl ?_
  have hK : Hid (∀ x w', Below w.heap.size w w' → PrL v g0 W0.heap.size 43 x w' → InvL v W0 g0 (listed.setIfInBounds 43 true) (a.put (some 46) x) w') := Lib.hid fun x w' hb hx => h.step (by omega) hb hx
  obtain ⟨K, hKe⟩ : ∃ K : Act → World → Prop, K = fun a' w' => InvL v W0 g0 (listed.setIfInBounds 43 true) a' w' := ⟨_, rfl⟩
  have hK2 : Hid (∀ x w', Below w.heap.size w w' → PrL v g0 W0.heap.size 43 x w' → K (a.put (some 46) x) w') := Lib.hid (by rw [hKe]; exact hK.out)
  rw [← hKe]
  clear hKe hK
  have e1 : a.eval (.tmp 45) = .slice v.A9 v.r.gap.length v.c9 := (PrL_2 (by decide) (by decide)).1 (h.at_ 42 (by omega) h1)
  rw [ev_eq] at e1
  have HC := Lib.hid (endsC v.r.gap v.A9 v.c9 w (E.now h.bel) h.box.rd.r9 (by omega))
  have hz := h.bel.size
  clear h
  go_simp
  refine HC.out.mono ?_
  rintro e w2 ⟨A, c, rfl, ho, hb⟩
  exact hK2.out _ _ hb ((PrL_3 (by decide) (by decide)).2 ⟨A, c, rfl, ho.lower hz⟩)
set_option maxRecDepth 100000 in
set_option maxHeartbeats 2000000 in
theorem stL_44 (h : InvL v W0 g0 listed a w) (E : Env W0) (hl : listed[44]? = some false) (h1 : listed[40]? = some true) (h2 : listed[43]? = some true) (hsm : v.r.gap.length ≤ 40000) : wpOp Tryz.prog opsL Q 44 (fun a' w' => InvL v W0 g0 (listed.setIfInBounds 44 true) a' w') a w := by
  refine wpOp_at (o := .mk (some 47) (.call (.mk (.builtin .append) #[.tmp 43, .tmp 46] #[46, 46])) 46 "tabletext.go:37" #[.mk 40 .data, .mk 43 .data, .mk 43 .chain] none) rfl ?_
  have hK : Hid (∀ x w', Below w.heap.size w w' → PrL v g0 W0.heap.size 44 x w' → InvL v W0 g0 (listed.setIfInBounds 44 true) (a.put (some 47) x) w') := Lib.hid fun x w' hb hx => h.step (by omega) hb hx
  obtain ⟨K, hKe⟩ : ∃ K : Act → World → Prop, K = fun a' w' => InvL v W0 g0 (listed.setIfInBounds 44 true) a' w' := ⟨_, rfl⟩
  have hK2 : Hid (∀ x w', Below w.heap.size w w' → PrL v g0 W0.heap.size 44 x w' → K (a.put (some 47) x) w') := Lib.hid (by rw [hKe]; exact hK.out)
  rw [← hKe]
  clear hKe hK
  obtain ⟨g, e1, hgz, hB⟩ : ∃ g, a.eval (.tmp 43) = .slice (some ⟨g, 0, none⟩) 1 1 ∧ W0.heap.size ≤ g ∧ Blk w g 9 #[.string (bs gapsW)] := (PrL_0 (by decide) (by decide)).1 (h.at_ 40 (by omega) h1)
  obtain ⟨A, c, e2, hO⟩ : ∃ A c, a.eval (.tmp 46) = .slice A (endsW v.r.gap).length c ∧ OwnR cS w W0.heap.size 9 (.slice A (endsW v.r.gap).length c) (endsW v.r.gap) 0 := (PrL_3 (by decide) (by decide)).1 (h.at_ 43 (by omega) h2)
  have hwl : (endsW v.r.gap).length ≤ 40000 := by rw [endsW, List.length_map]; exact hsm
  have hz := h.bel.size
  obtain ⟨i0, hi0, hz0, hz1, hz2⟩ := info_parts infoStrT
  clear h
  obtain ⟨A', c', h0, h3, h4⟩ := hO.reads2
  simp only [Value.slice.injEq] at h0
  obtain ⟨rfl, _, rfl⟩ := h0
  by_cases hw0 : endsW v.r.gap = []
  · rw [hw0] at e2
    rw [if_pos (show Region.wanted _ _ = true by rfl)]
    refine Lib.wp_append_run w (.tmp 43) (.tmp 46) 46 46 rfl _ _ e1 e2 _ _ (run_app_zero w 46 _ 9 i0 Tryz.underlying46 hi0 g _ _) ?_
    refine hK2.out _ _ (Below.refl _ _) ((PrL_4 (by decide) (by decide)).2 ⟨some ⟨g, 0, none⟩, 1, ?_, ?_⟩)
    · show Value.slice _ 1 1 = .slice _ ((endsW v.r.gap).length + 1) 1; rw [hw0]; rfl
    · show OwnR cS w W0.heap.size 9 (.slice _ ((endsW v.r.gap).length + 1) 1) (gapsW :: endsW v.r.gap) 0; rw [hw0]; exact one_own hB hgz (by decide)
  · have hl0 := List.length_pos_iff.2 hw0
    refine step_append_wordsNL rfl (.tmp 43) (.tmp 46) 46 rfl 9 i0 _ Tryz.underlying46 hi0 hz0 hz1 hz2 rfl g [gapsW] 1 rfl e1 _ hB rfl A _ c (endsW v.r.gap) rfl (by simp; omega) hl0 e2 h4 (fun x hx => by (simp only [List.mem_singleton] at hx; subst hx; exact Nat.le_trans (show gapsW.length ≤ 20 by decide) (by unfold maxLen; omega))) ((endsW v.r.gap).length + 1) (by simp) ?_
    intro A5 c5 w5 ho hb
    exact hK2.out _ _ hb ((PrL_4 (by decide) (by decide)).2 ⟨A5, c5, rfl, ho.lower hz⟩)
set_option maxRecDepth 100000 in
set_option maxHeartbeats 2000000 in
theorem stL_45 (h : InvL v W0 g0 listed a w) (E : Env W0) (hl : listed[45]? = some false) (h0 : listed[4]? = some true) (h1 : listed[9]? = some true) (h2 : listed[14]? = some true) (h3 : listed[19]? = some true) (h4 : listed[24]? = some true) (h5 : listed[29]? = some true) (h6 : listed[34]? = some true) (h7 : listed[39]? = some true) (h8 : listed[44]? = some true) (hsm : v.r.path.length ≤ 40000 ∧ v.r.pts.length ≤ 40000 ∧ v.r.secs.length ≤ 40000 ∧ v.r.over.length ≤ 40000 ∧ v.r.opts.length ≤ 40000 ∧ v.r.osecs.length ≤ 40000 ∧ v.r.flk.length ≤ 40000 ∧ v.r.grd.length ≤ 40000 ∧ v.r.gap.length ≤ 40000) : wpOp Tryz.prog opsL Q 45 (fun a' w' => InvL v W0 g0 (listed.setIfInBounds 45 true) a' w') a w := by
  refine wpOp_at (o := .mk (some 48) (.buildSlice 43 9 #[(0, .tmp 7), (1, .tmp 12), (2, .tmp 17), (3, .tmp 22), (4, .tmp 27), (5, .tmp 32), (6, .tmp 37), (7, .tmp 42), (8, .tmp 47)]) 43 "tabletext.go:37" #[.mk 4 .data, .mk 9 .data, .mk 14 .data, .mk 19 .data, .mk 24 .data, .mk 29 .data, .mk 34 .data, .mk 39 .data, .mk 44 .data] none) rfl ?_
  have hK : Hid (∀ x w', Below w.heap.size w w' → PrL v g0 W0.heap.size 45 x w' → InvL v W0 g0 (listed.setIfInBounds 45 true) (a.put (some 48) x) w') := Lib.hid fun x w' hb hx => h.step (by omega) hb hx
  obtain ⟨K, hKe⟩ : ∃ K : Act → World → Prop, K = fun a' w' => InvL v W0 g0 (listed.setIfInBounds 45 true) a' w' := ⟨_, rfl⟩
  have hK2 : Hid (∀ x w', Below w.heap.size w w' → PrL v g0 W0.heap.size 45 x w' → K (a.put (some 48) x) w') := Lib.hid (by rw [hKe]; exact hK.out)
  rw [← hKe]
  clear hKe hK
  obtain ⟨A0, d0, e0, O0⟩ : ∃ A c, a.eval (.tmp 7) = .slice A ((stpsW v.r.path).length + 1) c ∧ OwnR cS w W0.heap.size 9 (.slice A ((stpsW v.r.path).length + 1) c) (pathW :: stpsW v.r.path) 0 := (PrL_4 (by decide) (by decide)).1 (h.at_ 4 (by omega) h0)
  rw [ev_eq] at e0
  obtain ⟨A1, d1, e1, O1⟩ : ∃ A c, a.eval (.tmp 12) = .slice A ((stgsW v.r.pts).length + 1) c ∧ OwnR cS w W0.heap.size 9 (.slice A ((stgsW v.r.pts).length + 1) c) (pointsW :: stgsW v.r.pts) 0 := (PrL_4 (by decide) (by decide)).1 (h.at_ 9 (by omega) h1)
  rw [ev_eq] at e1
  obtain ⟨A2, d2, e2, O2⟩ : ∃ A c, a.eval (.tmp 17) = .slice A ((numsW v.r.secs).length + 1) c ∧ OwnR cS w W0.heap.size 9 (.slice A ((numsW v.r.secs).length + 1) c) (sectionsW :: numsW v.r.secs) 0 := (PrL_4 (by decide) (by decide)).1 (h.at_ 14 (by omega) h2)
  rw [ev_eq] at e2
  obtain ⟨A3, d3, e3, O3⟩ : ∃ A c, a.eval (.tmp 22) = .slice A ((stpsW v.r.over).length + 1) c ∧ OwnR cS w W0.heap.size 9 (.slice A ((stpsW v.r.over).length + 1) c) (overW :: stpsW v.r.over) 0 := (PrL_4 (by decide) (by decide)).1 (h.at_ 19 (by omega) h3)
  rw [ev_eq] at e3
  obtain ⟨A4, d4, e4, O4⟩ : ∃ A c, a.eval (.tmp 27) = .slice A ((stgsW v.r.opts).length + 1) c ∧ OwnR cS w W0.heap.size 9 (.slice A ((stgsW v.r.opts).length + 1) c) (overpointsW :: stgsW v.r.opts) 0 := (PrL_4 (by decide) (by decide)).1 (h.at_ 24 (by omega) h4)
  rw [ev_eq] at e4
  obtain ⟨A5, d5, e5, O5⟩ : ∃ A c, a.eval (.tmp 32) = .slice A ((numsW v.r.osecs).length + 1) c ∧ OwnR cS w W0.heap.size 9 (.slice A ((numsW v.r.osecs).length + 1) c) (oversectionsW :: numsW v.r.osecs) 0 := (PrL_4 (by decide) (by decide)).1 (h.at_ 29 (by omega) h5)
  rw [ev_eq] at e5
  obtain ⟨A6, d6, e6, O6⟩ : ∃ A c, a.eval (.tmp 37) = .slice A ((stgsW v.r.flk).length + 1) c ∧ OwnR cS w W0.heap.size 9 (.slice A ((stgsW v.r.flk).length + 1) c) (flankW :: stgsW v.r.flk) 0 := (PrL_4 (by decide) (by decide)).1 (h.at_ 34 (by omega) h6)
  rw [ev_eq] at e6
  obtain ⟨A7, d7, e7, O7⟩ : ∃ A c, a.eval (.tmp 42) = .slice A ((numsW v.r.grd).length + 1) c ∧ OwnR cS w W0.heap.size 9 (.slice A ((numsW v.r.grd).length + 1) c) (guardsW :: numsW v.r.grd) 0 := (PrL_4 (by decide) (by decide)).1 (h.at_ 39 (by omega) h7)
  rw [ev_eq] at e7
  obtain ⟨A8, d8, e8, O8⟩ : ∃ A c, a.eval (.tmp 47) = .slice A ((endsW v.r.gap).length + 1) c ∧ OwnR cS w W0.heap.size 9 (.slice A ((endsW v.r.gap).length + 1) c) (gapsW :: endsW v.r.gap) 0 := (PrL_4 (by decide) (by decide)).1 (h.at_ 44 (by omega) h8)
  rw [ev_eq] at e8
  have hb : Below w.heap.size w (w.alloc (.cells #[.slice A0 ((stpsW v.r.path).length + 1) d0, .slice A1 ((stgsW v.r.pts).length + 1) d1, .slice A2 ((numsW v.r.secs).length + 1) d2, .slice A3 ((stpsW v.r.over).length + 1) d3, .slice A4 ((stgsW v.r.opts).length + 1) d4, .slice A5 ((numsW v.r.osecs).length + 1) d5, .slice A6 ((stgsW v.r.flk).length + 1) d6, .slice A7 ((numsW v.r.grd).length + 1) d7, .slice A8 ((endsW v.r.gap).length + 1) d8] 46)) := (Below.refl _ _).alloc (Nat.le_refl _) _
  have HR : Hid (RelL _ [.slice A0 ((stpsW v.r.path).length + 1) d0, .slice A1 ((stgsW v.r.pts).length + 1) d1, .slice A2 ((numsW v.r.secs).length + 1) d2, .slice A3 ((stpsW v.r.over).length + 1) d3, .slice A4 ((stgsW v.r.opts).length + 1) d4, .slice A5 ((numsW v.r.osecs).length + 1) d5, .slice A6 ((stgsW v.r.flk).length + 1) d6, .slice A7 ((numsW v.r.grd).length + 1) d7, .slice A8 ((endsW v.r.gap).length + 1) d8] (nineL v.r)) := Lib.hid (⟨own_cl (O0.now hb), own_cl (O1.now hb), own_cl (O2.now hb), own_cl (O3.now hb), own_cl (O4.now hb), own_cl (O5.now hb), own_cl (O6.now hb), own_cl (O7.now hb), own_cl (O8.now hb), trivial⟩ : RelL (w.alloc (.cells #[.slice A0 ((stpsW v.r.path).length + 1) d0, .slice A1 ((stgsW v.r.pts).length + 1) d1, .slice A2 ((numsW v.r.secs).length + 1) d2, .slice A3 ((stpsW v.r.over).length + 1) d3, .slice A4 ((stgsW v.r.opts).length + 1) d4, .slice A5 ((numsW v.r.osecs).length + 1) d5, .slice A6 ((stgsW v.r.flk).length + 1) d6, .slice A7 ((numsW v.r.grd).length + 1) d7, .slice A8 ((endsW v.r.gap).length + 1) d8] 46)) [.slice A0 ((stpsW v.r.path).length + 1) d0, .slice A1 ((stgsW v.r.pts).length + 1) d1, .slice A2 ((numsW v.r.secs).length + 1) d2, .slice A3 ((stpsW v.r.over).length + 1) d3, .slice A4 ((stgsW v.r.opts).length + 1) d4, .slice A5 ((numsW v.r.osecs).length + 1) d5, .slice A6 ((stgsW v.r.flk).length + 1) d6, .slice A7 ((numsW v.r.grd).length + 1) d7, .slice A8 ((endsW v.r.gap).length + 1) d8] (nineL v.r))
  have hz := h.bel.size
  have HB := Lib.hid hb
  clear h hb O0 O1 O2 O3 O4 O5 O6 O7 O8
  generalize (stpsW v.r.path).length + 1 = m0 at *
  generalize (stgsW v.r.pts).length + 1 = m1 at *
  generalize (numsW v.r.secs).length + 1 = m2 at *
  generalize (stpsW v.r.over).length + 1 = m3 at *
  generalize (stgsW v.r.opts).length + 1 = m4 at *
  generalize (numsW v.r.osecs).length + 1 = m5 at *
  generalize (stgsW v.r.flk).length + 1 = m6 at *
  generalize (numsW v.r.grd).length + 1 = m7 at *
  generalize (endsW v.r.gap).length + 1 = m8 at *
  go_simp
  exact hK2.out _ _ HB.out (PrL_5.2 ⟨_, _, rfl, hz, Blk.new _ _ _ _ rfl, HR.out⟩)
set_option maxRecDepth 100000 in
set_option maxHeartbeats 2000000 in
theorem stL_46 (h : InvL v W0 g0 listed a w) (E : Env W0) (hl : listed[46]? = some false) (h1 : listed[45]? = some true) : wpOp Tryz.prog opsL Q 46 (fun a' w' => InvL v W0 g0 (listed.setIfInBounds 46 true) a' w') a w := by
  refine wpOp_at (o := .mk (some 2) (.assign (.tmp 48)) 43 "tabletext.go:37" #[.mk 45 .data, .mk 44 .chain, .mk 0 .phase, .mk 1 .phase, .mk 2 .phase, .mk 3 .phase, .mk 4 .phase, .mk 5 .phase, .mk 6 .phase, .mk 7 .phase, .mk 8 .phase, .mk 9 .phase, .mk 10 .phase, .mk 11 .phase, .mk 12 .phase, .mk 13 .phase, .mk 14 .phase, .mk 15 .phase, .mk 16 .phase, .mk 17 .phase, .mk 18 .phase, .mk 19 .phase, .mk 20 .phase, .mk 21 .phase, .mk 22 .phase, .mk 23 .phase, .mk 24 .phase, .mk 25 .phase, .mk 26 .phase, .mk 27 .phase, .mk 28 .phase, .mk 29 .phase, .mk 30 .phase, .mk 31 .phase, .mk 32 .phase, .mk 33 .phase, .mk 34 .phase, .mk 35 .phase, .mk 36 .phase, .mk 37 .phase, .mk 38 .phase, .mk 39 .phase, .mk 40 .phase, .mk 41 .phase, .mk 42 .phase, .mk 43 .phase, .mk 44 .phase, .mk 45 .phase] none) rfl ?_
  have hK : Hid (∀ x, PrL v g0 W0.heap.size 45 x w → InvL v W0 g0 (listed.setIfInBounds 46 true) (a.put (some 2) x) w) := Lib.hid fun x hx => h.last hx
  obtain ⟨K, hKe⟩ : ∃ K : Act → World → Prop, K = fun a' w' => InvL v W0 g0 (listed.setIfInBounds 46 true) a' w' := ⟨_, rfl⟩
  have hK2 : Hid (∀ x , PrL v g0 W0.heap.size 45 x w → K (a.put (some 2) x) w) := Lib.hid (by rw [hKe]; exact hK.out)
  rw [← hKe]
  clear hKe hK
  have e1 : PrL v g0 W0.heap.size 45 (a.eval (.tmp 48)) w := h.at_ 45 (by omega) h1
  rw [ev_eq] at e1
  clear h
  go_simp
  exact hK2.out _ e1
end
theorem edge {ops : Array Oper} {listed : Array Bool} {i : Nat} (hd : ∀ o, ops[i]? = some o → ∀ e ∈ o.after, Region.binds .any e = true → listed[e.on]? = some true) {o : Oper} (ho : ops[i]? = some o) (j : Nat) {e : Edge} (he : o.after[j]? = some e) (hb : Region.binds .any e = true) : listed[e.on]? = some true := hd o ho e (Array.mem_of_getElem? he) hb
theorem invL_zero (v : RouV) (W0 : World) (g0 : Nat) (a : Act) (hts : a.tmps.size = 49) (hdf : a.defers = []) (h1 : a.eval (.tmp 1) = .pointer (some ⟨g0, 0, none⟩)) (hb : RBx g0 v W0) : InvL v W0 g0 (Array.replicate 47 false) a W0.drew :=
  ⟨by simp, hts, hdf, h1, (Below.refl _ _).drew, hb.now (Below.refl _ _).drew, fun i hi hl => by simp [Array.getElem?_replicate, show i < 47 by omega] at hl, fun hl => by simp [Array.getElem?_replicate] at hl⟩
/-- The lists of a route are short. -/
def ShR (r : Rou) : Prop := r.path.length ≤ 40000 ∧ r.pts.length ≤ 40000 ∧ r.secs.length ≤ 40000 ∧ r.over.length ≤ 40000 ∧ r.opts.length ≤ 40000 ∧ r.osecs.length ≤ 40000 ∧ r.flk.length ≤ 40000 ∧ r.grd.length ≤ 40000 ∧ r.gap.length ≤ 40000
set_option maxRecDepth 100000 in
set_option maxHeartbeats 8000000 in
theorem lists_any (v : RouV) (w : World) (E : Env w) (hr : RvR w (Lt w) v) (hsm : ShR v.r) : Calls Tryz.prog 22 #[.agg #[.string (bs v.r.name), .int .i64 v.r.ent, .int .i64 v.r.ext, .slice v.A1 v.r.path.length v.c1, .slice v.A2 v.r.pts.length v.c2, .slice v.A3 v.r.secs.length v.c3, .int .i64 v.r.app, .int .i64 v.r.len, .slice v.A4 v.r.over.length v.c4, .slice v.A5 v.r.opts.length v.c5, .slice v.A6 v.r.osecs.length v.c6, .slice v.A7 v.r.flk.length v.c7, .slice v.A8 v.r.grd.length v.c8, .slice v.A9 v.r.gap.length v.c9]] w fun e w' => ∃ g cs, e = .returned (.slice (some ⟨g, 0, none⟩) 9 9) ∧ w.heap.size ≤ g ∧ Blk w' g 46 (List.toArray cs) ∧ RelL w' cs (nineL v.r) ∧ Below w.heap.size w w' := by
  have hB : Below w.heap.size w (w.alloc (.cells #[.string (bs v.r.name), .int .i64 v.r.ent, .int .i64 v.r.ext, .slice v.A1 v.r.path.length v.c1, .slice v.A2 v.r.pts.length v.c2, .slice v.A3 v.r.secs.length v.c3, .int .i64 v.r.app, .int .i64 v.r.len, .slice v.A4 v.r.over.length v.c4, .slice v.A5 v.r.opts.length v.c5, .slice v.A6 v.r.osecs.length v.c6, .slice v.A7 v.r.flk.length v.c7, .slice v.A8 v.r.grd.length v.c8, .slice v.A9 v.r.gap.length v.c9] 41)) := (Below.refl _ _).alloc (Nat.le_refl _) _
  have hR := RBx.new hr
  have E2 := E.now hB
  obtain ⟨hm0, hm1, hm2, hm3, hm4, hm5, hm6, hm7, hm8⟩ := id hsm
  go_enter Tryz.func22, Tryz.ntmps22
  go_upto_region 1 with (fail)
  generalize w.alloc (.cells #[.string (bs v.r.name), .int .i64 v.r.ent, .int .i64 v.r.ext, .slice v.A1 v.r.path.length v.c1, .slice v.A2 v.r.pts.length v.c2, .slice v.A3 v.r.secs.length v.c3, .int .i64 v.r.app, .int .i64 v.r.len, .slice v.A4 v.r.over.length v.c4, .slice v.A5 v.r.opts.length v.c5, .slice v.A6 v.r.osecs.length v.c6, .slice v.A7 v.r.flk.length v.c7, .slice v.A8 v.r.grd.length v.c8, .slice v.A9 v.r.gap.length v.c9] 41) = W0 at *
  refine wp_region_inv (ops := opsL) (by kernel_rfl) (by kernel_rfl) (InvL v W0 w.heap.size) (invL_zero v W0 w.heap.size _ rfl rfl rfl hR) (fun listed a w h => h.sz) ?_ ?_
  · intro listed a w1 i hI hi hl hd
    have hc : i = 0 ∨ i = 1 ∨ i = 2 ∨ i = 3 ∨ i = 4 ∨ i = 5 ∨ i = 6 ∨ i = 7 ∨ i = 8 ∨ i = 9 ∨ i = 10 ∨ i = 11 ∨ i = 12 ∨ i = 13 ∨ i = 14 ∨ i = 15 ∨ i = 16 ∨ i = 17 ∨ i = 18 ∨ i = 19 ∨ i = 20 ∨ i = 21 ∨ i = 22 ∨ i = 23 ∨ i = 24 ∨ i = 25 ∨ i = 26 ∨ i = 27 ∨ i = 28 ∨ i = 29 ∨ i = 30 ∨ i = 31 ∨ i = 32 ∨ i = 33 ∨ i = 34 ∨ i = 35 ∨ i = 36 ∨ i = 37 ∨ i = 38 ∨ i = 39 ∨ i = 40 ∨ i = 41 ∨ i = 42 ∨ i = 43 ∨ i = 44 ∨ i = 45 ∨ i = 46 := by have : i < 47 := hi; omega
    rcases hc with rfl | rfl | rfl | rfl | rfl | rfl | rfl | rfl | rfl | rfl | rfl | rfl | rfl | rfl | rfl | rfl | rfl | rfl | rfl | rfl | rfl | rfl | rfl | rfl | rfl | rfl | rfl | rfl | rfl | rfl | rfl | rfl | rfl | rfl | rfl | rfl | rfl | rfl | rfl | rfl | rfl | rfl | rfl | rfl | rfl | rfl | rfl
    · exact stL_0 hI E2 hl 
    · exact stL_1 hI E2 hl 
    · exact stL_2 hI E2 hl (edge hd rfl 0 rfl rfl)
    · exact stL_3 hI E2 hl (edge hd rfl 0 rfl rfl) hm0
    · exact stL_4 hI E2 hl (edge hd rfl 0 rfl rfl) (edge hd rfl 1 rfl rfl) hm0
    · exact stL_5 hI E2 hl 
    · exact stL_6 hI E2 hl 
    · exact stL_7 hI E2 hl (edge hd rfl 0 rfl rfl)
    · exact stL_8 hI E2 hl (edge hd rfl 0 rfl rfl) hm1
    · exact stL_9 hI E2 hl (edge hd rfl 0 rfl rfl) (edge hd rfl 1 rfl rfl) hm1
    · exact stL_10 hI E2 hl 
    · exact stL_11 hI E2 hl 
    · exact stL_12 hI E2 hl (edge hd rfl 0 rfl rfl)
    · exact stL_13 hI E2 hl (edge hd rfl 0 rfl rfl) hm2
    · exact stL_14 hI E2 hl (edge hd rfl 0 rfl rfl) (edge hd rfl 1 rfl rfl) hm2
    · exact stL_15 hI E2 hl 
    · exact stL_16 hI E2 hl 
    · exact stL_17 hI E2 hl (edge hd rfl 0 rfl rfl)
    · exact stL_18 hI E2 hl (edge hd rfl 0 rfl rfl) hm3
    · exact stL_19 hI E2 hl (edge hd rfl 0 rfl rfl) (edge hd rfl 1 rfl rfl) hm3
    · exact stL_20 hI E2 hl 
    · exact stL_21 hI E2 hl 
    · exact stL_22 hI E2 hl (edge hd rfl 0 rfl rfl)
    · exact stL_23 hI E2 hl (edge hd rfl 0 rfl rfl) hm4
    · exact stL_24 hI E2 hl (edge hd rfl 0 rfl rfl) (edge hd rfl 1 rfl rfl) hm4
    · exact stL_25 hI E2 hl 
    · exact stL_26 hI E2 hl 
    · exact stL_27 hI E2 hl (edge hd rfl 0 rfl rfl)
    · exact stL_28 hI E2 hl (edge hd rfl 0 rfl rfl) hm5
    · exact stL_29 hI E2 hl (edge hd rfl 0 rfl rfl) (edge hd rfl 1 rfl rfl) hm5
    · exact stL_30 hI E2 hl 
    · exact stL_31 hI E2 hl 
    · exact stL_32 hI E2 hl (edge hd rfl 0 rfl rfl)
    · exact stL_33 hI E2 hl (edge hd rfl 0 rfl rfl) hm6
    · exact stL_34 hI E2 hl (edge hd rfl 0 rfl rfl) (edge hd rfl 1 rfl rfl) hm6
    · exact stL_35 hI E2 hl 
    · exact stL_36 hI E2 hl 
    · exact stL_37 hI E2 hl (edge hd rfl 0 rfl rfl)
    · exact stL_38 hI E2 hl (edge hd rfl 0 rfl rfl) hm7
    · exact stL_39 hI E2 hl (edge hd rfl 0 rfl rfl) (edge hd rfl 1 rfl rfl) hm7
    · exact stL_40 hI E2 hl 
    · exact stL_41 hI E2 hl 
    · exact stL_42 hI E2 hl (edge hd rfl 0 rfl rfl)
    · exact stL_43 hI E2 hl (edge hd rfl 0 rfl rfl) hm8
    · exact stL_44 hI E2 hl (edge hd rfl 0 rfl rfl) (edge hd rfl 1 rfl rfl) hm8
    · exact stL_45 hI E2 hl (edge hd rfl 0 rfl rfl) (edge hd rfl 1 rfl rfl) (edge hd rfl 2 rfl rfl) (edge hd rfl 3 rfl rfl) (edge hd rfl 4 rfl rfl) (edge hd rfl 5 rfl rfl) (edge hd rfl 6 rfl rfl) (edge hd rfl 7 rfl rfl) (edge hd rfl 8 rfl rfl) hsm
    · exact stL_46 hI E2 hl (edge hd rfl 0 rfl rfl)
  · intro listed a w1 hI hall
    obtain ⟨g, cs, e2, hgz, hblk, hrd⟩ := PrL_5.1 (hI.fin (hall 46 (by decide)))
    have hb1 := hB.trans (hI.bel.mono hB.size)
    rw [ev_eq] at e2
    have hdf := hI.df
    clear hI hall
    obtain ⟨tm, df⟩ := a
    dsimp only at e2 hdf
    subst hdf
    go_wp2_with fail
    go_ret
    exact ⟨g, cs, by first | rfl | (simp [e2]; done) | (rw [e2]; done), Nat.le_trans hB.size hgz, hblk, hrd, hb1⟩
end Go.Proofs.YtlblfblkallnhaaGreatDoor
