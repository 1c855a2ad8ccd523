/- The call's own sets ('seen'), and the table of ends: over what the map laws of the library say. -/
import Derived.Test.YtopoknocfoiiaaaGreatDoorRows
import Derived.Test.YtopoknocfoiiaaaGreatDoorGround
import Derived.Maps.OwnSet
import Derived.Maps.RangeWalk
import Derived.DeepKeys4
import Derived.Test.YtopoknocfoiiaaaGreatDoorRow
import Derived.Test.YtopoknocfoiiaaaGreatDoorPlTxt
namespace Go.Proofs.YtopoknocfoiiaaaGreatDoor
set_option linter.unusedVariables false
set_option linter.unusedSimpArgs false
open Go.RowKit
open Go.Maps (Keyed IsMap)
section
variable {H : Type}
theorem plain_bool_inv {P : Program} {e : TypeId} (he : P.underlying e = some .bool) {v : Value} {z : DataW H × List MemPlace} (h : plainElem P e v = some z) : ∃ b, v = .bool b ∧ z = (.lit (.bool b), []) := by
  unfold plainElem at h
  rw [he] at h
  cases v <;> simp at h
  exact ⟨_, rfl, h.symm⟩
theorem atKey_fold (u z : DataW H) (k : Lit) : ∀ (acc : List Lit) (m : DataW H), IsMap m → (∀ x ∈ acc, WideAt.IsKeyLit x) → (acc.foldl (fun m x => m.put x u) m).atKey k z = if acc.any (fun x => x.sameKey k) then u else m.atKey k z
  | [], m, _, _ => by simp
  | x :: r, m, hm, h => by
    have hx := h x (by simp)
    rw [List.foldl_cons, atKey_fold u z k r (m.put x u) (hm.put x u) (fun y hy => h y (by simp [hy])), List.any_cons]
    by_cases e : k = x
    · subst e
      rw [Maps.atKey_put_same hm hx, WideAt.sameKey_self hx]
      simp
    · rw [Maps.atKey_put_other e, Maps.sameKey_ne (fun e' => e e'.symm)]
      simp
theorem atKey_setOf (u z : DataW H) (k : Lit) (acc : List Lit) (h : ∀ x ∈ acc, WideAt.IsKeyLit x) : (Maps.setOf u acc).atKey k z = if acc.any (fun x => x.sameKey k) then u else z := by
  rw [Maps.setOf, atKey_fold u z k acc _ Maps.isMap_empty h]
  rfl
end
/-- Block b is a map[K]bool that holds true at the keys listed, and no more. -/
def SetW (P : Program) (k e : TypeId) (w : World) (b n : Nat) (ks : List Lit) : Prop := w.ownsMap (H := Unit) P k (plainElem P e) b n (Maps.setOf (.lit (.bool true)) ks) ∧ ∀ x ∈ ks, WideAt.IsKeyLit x
section
variable {P : Program} {k e : TypeId} {w w' : World} {b n : Nat} {ks : List Lit}
theorem SetW.made (w : World) (P : Program) (k e : TypeId) (b : Nat) (hb : b = w.heap.size) : SetW P k e (w.alloc (.map #[] 0)) b 0 [] := by
  subst hb
  exact ⟨World.ownsMap_made _ _ _ _, by simp⟩
theorem SetW.now (h : SetW P k e w b n ks) (hb : Below w.heap.size w w') : SetW P k e w' b n ks :=
  ⟨h.1.kept (row := none) ⟨hb.os, hb.tape, hb.output, hb.size, fun i hi _ => hb.block i hi⟩ (by simp), h.2⟩
theorem SetW.alloc (h : SetW P k e w b n ks) (o : Obj) : SetW P k e (w.alloc o) b n ks := ⟨h.1.alloc o, h.2⟩
theorem SetW.drew (h : SetW P k e w b n ks) : SetW P k e w.drew b n ks := h
theorem SetW.lt (h : SetW P k e w b n ks) : b < w.heap.size := h.1.lt
end
section
variable {P : Program} (w : World) {ops : Array Oper} {rest : List Oper} {o : Oper} {a : Act} {Q : Exit → Act → World → Prop}
theorem wpList_look_set (hg : o.guard = none) (m x : Operand) (t : TypeId) (hop : o.op = Op.lookup t m x false) (k e : TypeId) (K : Keyed P k) (ht : P.underlying t = some (.map k e)) (he : P.underlying e = some .bool) (hz : (zeroValue e).run P w = .ok (.bool false) w)
    (b n : Nat) (ks : List Lit) (hm : a.eval m = .map (some b)) (hown : SetW P k e w b n ks) (key : Value) (kl : Lit) (hx : a.eval x = key) (hkey : keyOf P k key = some kl)
    (hK : wpList P ops Q rest (a.put o.dst (.bool (ks.any fun x => x.sameKey kl))) w) : wpList P ops Q (o :: rest) a w := by
  refine wpList_plain hg fun K' hK' => ?_
  obtain ⟨v, ps, hrun, hv⟩ := hown.1.lookup K ht hz (plainElem_bool he false) hkey
  obtain ⟨c, rfl, hc⟩ := plain_bool_inv he hv
  rw [atKey_setOf _ _ _ _ hown.2] at hc
  have hcc : c = ks.any fun x => x.sameKey kl := by
    cases hh : ks.any fun x => x.sameKey kl <;> rw [hh] at hc <;> simp at hc <;> simp [hc]
  subst hcc
  unfold Oper.wp
  simp only [execOp, hop, hm, hx, Sem.run_bind, hrun, Result.andThen]
  exact hK' _ _ hK
theorem wpList_put_set (hg : o.guard = none) (m x v : Operand) (t : TypeId) (hop : o.op = Op.mapUpdate t m x v) (k e : TypeId) (K : Keyed P k) (ht : P.underlying t = some (.map k e)) (he : P.underlying e = some .bool)
    (b n : Nat) (ks : List Lit) (hm : a.eval m = .map (some b)) (hown : SetW P k e w b n ks) (hn : n < maxLen) (key : Value) (kl : Lit) (hx : a.eval x = key) (hv : a.eval v = .bool true) (hkey : keyOf P k key = some kl)
    (hK : ∀ w', SetW P k e w' b (n + 1) (ks ++ [kl]) → w.grownBy w' (some b) → wpList P ops Q rest (a.put o.dst undef) w') : wpList P ops Q (o :: rest) a w := by
  refine wpList_mapUpdate_own (H := Unit) w hg m x v t hop k e K ht (plainElem P e) b n _ hm hown.1 hn key (.bool true) kl hx hv hkey (.lit (.bool true)) [] (plainElem_bool he true) fun w' h1 h2 => hK w' ⟨?_, ?_⟩ h2
  · rw [Maps.setOf_snoc]; exact h1
  · intro y hy
    rcases List.mem_append.1 hy with hy | hy
    · exact hown.2 y hy
    · simp only [List.mem_singleton] at hy
      subst hy
      exact K.key hkey
end
theorem any_str (l : List (List UInt8)) (s : List UInt8) : (l.map Lit.string).any (fun x => x.sameKey (.string s)) = decide (s ∈ l) := by
  rw [Bool.eq_iff_iff]
  simp only [List.any_eq_true, List.mem_map, decide_eq_true_eq]
  constructor
  · rintro ⟨x, ⟨y, hy, rfl⟩, h⟩
    have := WideAt.sameKey_eq h
    simp at this
    exact this ▸ hy
  · exact fun h => ⟨_, ⟨s, h, rfl⟩, WideAt.sameKey_self trivial⟩
theorem any_int (l : List Int) (n : Int) : (l.map (Lit.int .i64)).any (fun x => x.sameKey (.int .i64 n)) = decide (n ∈ l) := by
  rw [Bool.eq_iff_iff]
  simp only [List.any_eq_true, List.mem_map, decide_eq_true_eq]
  constructor
  · rintro ⟨x, ⟨y, hy, rfl⟩, h⟩
    have := WideAt.sameKey_eq h
    simp at this
    exact this ▸ hy
  · exact fun h => ⟨_, ⟨n, h, rfl⟩, WideAt.sameKey_self trivial⟩
theorem strKey : Keyed Tryz.prog 9 := Maps.string_keyed Tryz.underlying9
theorem intKey : Keyed Tryz.prog 3 := Maps.int_keyed Tryz.underlying3
theorem zeroBool (w : World) : (zeroValue 4).run Tryz.prog w = .ok (.bool false) w := by kernel_rfl
theorem str_key (l : List UInt8) (h : l.length ≤ maxLen) : keyOf Tryz.prog 9 (.string (bs l)) = some (.string l) := Go.WideMaps.keyOf_string_mk Tryz.underlying9 (by rw [bs_size]; exact h)
theorem int_key (n : Int) (h : I64n n) : keyOf Tryz.prog 3 (.int .i64 n) = some (.int .i64 n) := Maps.keyOf_int_mk Tryz.underlying3 (by unfold I64n at h; simp [Lit.wf, IntKind.min, IntKind.max, IntKind.signed, IntKind.bits]; omega)
/-! ### The table of ends -/
theorem laidOut : laidOutB Tryz.prog = true := by kernel_rfl
theorem endLaw : Keyed Tryz.prog 37 := Keyed.of_law (deep_law_laid laidOut (m := 2) (by omega) (of_decide_eq_true (by kernel_rfl)) (by kernel_rfl) (by rw [Tryz.underlying37]))
def endV (e : End2) : Value := .agg #[.int .i64 e.el, .int .i64 e.sd]
def endO (e : End2) : Prop := I64n e.el ∧ I64n e.sd
def endK (e : End2) : Lit := .string (keyBytes [.int .i64 e.el, .int .i64 e.sd])
theorem wf_i64 {n : Int} (h : I64n n) : (Lit.int .i64 n).wf = true := by unfold I64n at h; simp [Lit.wf, IntKind.min, IntKind.max, IntKind.signed, IntKind.bits]; omega
theorem types_pos : ∃ m, Tryz.prog.types.size = m + 1 := Nat.exists_eq_add_one.2 (of_decide_eq_true (by kernel_rfl))
theorem cellsInt : Tryz.prog.cellsOf 3 = 1 := by kernel_rfl
theorem cellsEnd : Tryz.prog.cellsOf 37 = 2 := by kernel_rfl
theorem keyEnd : Tryz.prog.keyType 37 = true := by kernel_rfl
theorem end_key (e : End2) (h : endO e) : keyOf Tryz.prog 37 (endV e) = some (endK e) := by
  obtain ⟨m, hm⟩ := types_pos
  have h1 := wf_i64 h.1
  have h2 := wf_i64 h.2
  unfold keyOf
  rw [Tryz.underlying37]
  have hf : (endV e).formed Tryz.prog 37 = true := by simp [endV, Value.formed, Tryz.underlying37, cellsEnd]
  simp only [keyEnd, hf, Bool.and_self, if_true]
  have h3 := Tryz.underlying3
  have h4 : ∀ d, 0 < d → Tryz.prog.keyLits d 3 [.int .i64 e.el] = some [.int .i64 e.el] := fun d hd => by
    obtain ⟨k, rfl⟩ := Nat.exists_eq_add_one.2 hd
    simp [Program.keyLits, h3, h1]
  have h5 : ∀ d, 0 < d → Tryz.prog.keyLits d 3 [.int .i64 e.sd] = some [.int .i64 e.sd] := fun d hd => by
    obtain ⟨k, rfl⟩ := Nat.exists_eq_add_one.2 hd
    simp [Program.keyLits, h3, h2]
  unfold Program.keyLits
  rw [Tryz.underlying37]
  simp [endV, Value.cells, cellsEnd, cellsInt, h4, h5, endK]
theorem endK_inj {a b : End2} (ha : endO a) (hb : endO b) (h : endK a = endK b) : a = b := by
  have h1 := end_key a ha
  rw [h] at h1
  have := endLaw.inj h1 (end_key b hb)
  simp [endV] at this
  obtain ⟨x, y⟩ := a
  obtain ⟨x', y'⟩ := b
  simp at this
  simp [this]
/-- How an end reads as a map's element. -/
def endE : Value → Option (DataW Unit × List MemPlace)
  | .agg cs => match cs.toList with
    | [.int .i64 a, .int .i64 b] => some (.agg [.lit (.int .i64 a), .lit (.int .i64 b)], [])
    | _ => none
  | _ => none
theorem endE_mk (e : End2) : endE (endV e) = some (.agg [.lit (.int .i64 e.el), .lit (.int .i64 e.sd)], []) := rfl
theorem endE_inv {v : Value} {z : DataW Unit × List MemPlace} (h : endE v = some z) : ∃ e : End2, v = endV e ∧ z = (.agg [.lit (.int .i64 e.el), .lit (.int .i64 e.sd)], []) := by
  unfold endE at h
  split at h
  · rename_i cs
    split at h
    · rename_i a b hc
      simp only [Option.some.injEq] at h
      have : cs = #[.int .i64 a, .int .i64 b] := by
        apply Array.toList_inj.1
        exact hc
      subst this
      exact ⟨⟨a, b⟩, rfl, h.symm⟩
    · cases h
  · cases h
theorem zeroEnd (w : World) : (zeroValue 37).run Tryz.prog w = .ok (endV ⟨0, 0⟩) w := by kernel_rfl
/-- Block b is the map of ends f. -/
def EndsW (w : World) (b n : Nat) (f : End2 → Option End2) : Prop := ∃ D, w.ownsMap (H := Unit) Tryz.prog 37 endE b n D ∧ IsMap D ∧ ∀ e, endO e → Maps.has D (endK e) = (f e).isSome ∧ ∀ g, f e = some g → ∀ z, D.atKey (endK e) z = .agg [.lit (.int .i64 g.el), .lit (.int .i64 g.sd)]
section
variable {w w' : World} {b n : Nat} {f : End2 → Option End2}
theorem EndsW.made (w : World) (b : Nat) (hb : b = w.heap.size) : EndsW (w.alloc (.map #[] 0)) b 0 (fun _ => none) := by
  subst hb
  exact ⟨_, World.ownsMap_made _ _ _ _, Maps.isMap_empty, fun e _ => ⟨rfl, fun g h => by cases h⟩⟩
theorem EndsW.now (h : EndsW w b n f) (hb : Below w.heap.size w w') : EndsW w' b n f := by
  obtain ⟨D, h1, h2⟩ := h
  exact ⟨D, h1.kept (row := none) ⟨hb.os, hb.tape, hb.output, hb.size, fun i hi _ => hb.block i hi⟩ (by simp), h2⟩
theorem EndsW.alloc (h : EndsW w b n f) (o : Obj) : EndsW (w.alloc o) b n f := h.now ((Below.refl _ _).alloc (Nat.le_refl _) o)
theorem EndsW.drew (h : EndsW w b n f) : EndsW w.drew b n f := h
theorem EndsW.lt (h : EndsW w b n f) : b < w.heap.size := by obtain ⟨D, h1, _⟩ := h; exact h1.lt
theorem EndsW.ext {f' : End2 → Option End2} (h : EndsW w b n f) (he : ∀ e, f e = f' e) : EndsW w b n f' := by
  rw [show f' = f from funext fun e => (he e).symm]; exact h
end
def upE (f : End2 → Option End2) (a b : End2) : End2 → Option End2 := fun e => if e = a then some b else f e
section
variable (w : World) {ops : Array Oper} {rest : List Oper} {o : Oper} {a : Act} {Q : Exit → Act → World → Prop}
theorem wpList_look_ends (hg : o.guard = none) (m x : Operand) (t : TypeId) (hop : o.op = Op.lookup t m x true) (ht : Tryz.prog.underlying t = some (.map 37 37))
    (b n : Nat) (f : End2 → Option End2) (hm : a.eval m = .map (some b)) (hown : EndsW w b n f) (e : End2) (he : endO e) (hx : a.eval x = .agg #[.int .i64 e.el, .int .i64 e.sd])
    (hK : wpList Tryz.prog ops Q rest (a.put o.dst (.tuple #[.agg #[.int .i64 ((f e).getD ⟨0, 0⟩).el, .int .i64 ((f e).getD ⟨0, 0⟩).sd], .bool (f e).isSome])) w) : wpList Tryz.prog ops Q (o :: rest) a w := by
  obtain ⟨D, h1, h2, h3⟩ := hown
  obtain ⟨h4, h5⟩ := h3 e he
  refine wpList_lookup_own_ok w hg m x t hop 37 37 endLaw ht endE (zeroEnd w) _ _ (endE_mk ⟨0, 0⟩) b n D hm h1 _ (endK e) hx (end_key e he) fun v ps hv => ?_
  obtain ⟨g, rfl, hg2⟩ := endE_inv hv
  rw [h4]
  have : g = (f e).getD ⟨0, 0⟩ := by
    cases hf : f e with
    | none =>
      rw [hf] at h4
      rw [Maps.atKey_of_not_has (by simpa using h4)] at hg2
      obtain ⟨x, y⟩ := g
      simp at hg2
      obtain ⟨⟨rfl, rfl⟩, _⟩ := hg2
      rfl
    | some g' =>
      rw [h5 g' hf] at hg2
      obtain ⟨x, y⟩ := g
      obtain ⟨x', y'⟩ := g'
      simp at hg2
      obtain ⟨⟨rfl, rfl⟩, _⟩ := hg2
      rfl
  rw [← this] at hK
  exact hK
theorem wpList_put_ends (hg : o.guard = none) (m x v : Operand) (t : TypeId) (hop : o.op = Op.mapUpdate t m x v) (ht : Tryz.prog.underlying t = some (.map 37 37))
    (b n : Nat) (f : End2 → Option End2) (hm : a.eval m = .map (some b)) (hown : EndsW w b n f) (hn : n < maxLen) (e g : End2) (he : endO e) (hx : a.eval x = .agg #[.int .i64 e.el, .int .i64 e.sd]) (hv : a.eval v = .agg #[.int .i64 g.el, .int .i64 g.sd])
    (hK : ∀ w', EndsW w' b (n + 1) (upE f e g) → w.grownBy w' (some b) → wpList Tryz.prog ops Q rest (a.put o.dst undef) w') : wpList Tryz.prog ops Q (o :: rest) a w := by
  obtain ⟨D, h1, h2, h3⟩ := hown
  refine wpList_mapUpdate_own (H := Unit) w hg m x v t hop 37 37 endLaw ht endE b n D hm h1 hn _ _ (endK e) hx hv (end_key e he) _ [] (endE_mk g) fun w' h4 h5 => hK w' ⟨_, h4, h2.put _ _, fun e' he' => ?_⟩ h5
  unfold upE
  by_cases h : e' = e
  · subst h
    rw [if_pos rfl]
    refine ⟨Maps.has_put_same h2 (endLaw.key (end_key e' he)) _, fun g' hg' z => ?_⟩
    simp only [Option.some.injEq] at hg'
    subst hg'
    exact Maps.atKey_put_same h2 (endLaw.key (end_key e' he)) _ _
  · rw [if_neg h]
    have hne : endK e' ≠ endK e := fun hk => h (endK_inj he' he hk)
    obtain ⟨h6, h7⟩ := h3 e' he'
    exact ⟨(Maps.has_put_other hne _).trans h6, fun g' hg' z => (Maps.atKey_put_other hne _ _).trans (h7 g' hg' z)⟩
end
end Go.Proofs.YtopoknocfoiiaaaGreatDoor
