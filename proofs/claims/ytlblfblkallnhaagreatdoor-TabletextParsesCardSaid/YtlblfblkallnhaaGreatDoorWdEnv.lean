/- What the program's variables hold, and the library's contracts in the words of lists of bytes. -/
import Derived.Test.YtlblfblkallnhaaGreatDoorRows
import Derived.Test.YtlblfblkallnhaaGreatDoorShelf
import Derived.Test.YtlblfblkallnhaaGreatDoorWdPN
import Derived.Test.YtlblfblkallnhaaGreatDoorRow
import Derived.Lib.AppendIntMem
import Derived.Lib.AtoiErrMem
namespace Go.Proofs.YtlblfblkallnhaaGreatDoor
set_option linter.unusedVariables false
set_option linter.unusedSimpArgs false
open Go.RowKit
/-- What the library's functions read of the package-level variables. -/
structure Env (w : World) : Prop where
  max : ∃ m, w.cell? ⟨0, 0, none⟩ = some (.int .i64 m)
  tab : Lib.TabIs Tryz.prog w "internal/strconv.uint64pow10" .u64 Lib.pow10Tab
/-- .. and of the errors. -/
structure EnvR (w : World) : Prop extends Env w where
  range : ∃ te pe, w.cell? ⟨7, 0, none⟩ = some (.iface te pe)
theorem cell_lt {w : World} {p : Addr} {u : Value} (h : w.cell? p = some u) : p.block < w.heap.size := by
  unfold World.cell? at h
  rcases Nat.lt_or_ge p.block w.heap.size with h' | h'
  · exact h'
  · rw [Array.getElem?_eq_none h'] at h; cases h
theorem Env.now {w w' : World} (E : Env w) (hb : Below w.heap.size w w') : Env w' := by
  obtain ⟨⟨m, h1⟩, h2⟩ := E
  exact ⟨⟨m, (hb.cell (cell_lt h1)).trans h1⟩, Lib.tabBelow_of_tabIs h2 _ hb⟩
theorem EnvR.now {w w' : World} (E : EnvR w) (hb : Below w.heap.size w w') : EnvR w' := by
  obtain ⟨te, pe, h3⟩ := E.range
  exact ⟨E.toEnv.now hb, ⟨te, pe, (hb.cell (cell_lt h3)).trans h3⟩⟩
section
variable {w : World}
theorem itoa_any (n : Int) (w : World) (E : Env w) (h0 : -9223372036854775808 ≤ n) (h1 : n ≤ 9223372036854775807) :
    Calls Tryz.prog 47 #[.int .i64 n] w fun e w' => e = .returned (.string (bs (Lib.itoa n))) ∧ Below w.heap.size w w' :=
  (Tryz.strconv_Itoa n h0 h1 w E.tab).mono fun _ _ ⟨h, k, os, hw⟩ => ⟨h, hw ▸ Lib.below_grow _ _ (Nat.le_refl _) k os⟩
theorem atoi_ok (s : List UInt8) (v : Int) (w : World) (hs : s.length ≤ 9223372036854775806) (h : Lib.atoiAll s = .ok v) :
    Calls Tryz.prog 125 #[.string (bs s)] w fun e w' => e = .returned (.tuple #[.int .i64 v, .nilIface]) ∧ Below w.heap.size w w' :=
  (Tryz.strconv_Atoi_ok (bs s) (by rw [bs_size]; exact hs) v h w).mono fun _ _ ⟨h, hw⟩ => ⟨h, by
    rcases hw with rfl | ⟨t, rfl⟩
    · exact Below.refl _ _
    · exact Lib.bytesWorld_below _ _ _⟩
theorem atoi_range (s : List UInt8) (w : World) (E : EnvR w) (hs : s.length ≤ 281474976710656) (h : Lib.atoiAll s = .range) :
    Calls Tryz.prog 125 #[.string (bs s)] w fun e w' => ∃ N, e = .returned (.tuple #[.int .i64 (Lib.atoiSat s), .iface 164 (.pointer (some ⟨N, 0, none⟩))]) ∧ Below w.heap.size w w' := by
  obtain ⟨te, pe, hv⟩ := E.range
  exact (Tryz.strconv_Atoi_range (bs s) (by rw [bs_size]; exact hs) h _ w hv (Or.inr ⟨te, pe, rfl⟩)).mono fun _ _ ⟨N, h, _, _, hb⟩ => ⟨N, h, hb⟩
theorem trimMinus (s : List UInt8) (w : World) :
    Calls Tryz.prog 124 #[.string (bs s), .string (bs [45])] w fun e w' => e = .returned (.string (bs (Lib.trimPrefix s [45]))) ∧ w = w' :=
  (Tryz.strings_TrimPrefix (bs s) (bs [45]) w).mono fun _ _ ⟨h, hw⟩ => ⟨h, hw.symm⟩
theorem indexByte_in (c : UInt8) : ∀ l : List UInt8, decide (0 ≤ Lib.indexByte l c) = decide (c ∈ l)
  | [] => by simp [Lib.indexByte]
  | x :: r => by
    have ih := indexByte_in c r
    have hge := Lib.indexByte_ge r c
    unfold Lib.indexByte
    by_cases h : x = c
    · simp [h]
    · have h1 : (x == c) = false := by simpa using h
      have h2 : ¬ c = x := fun e => h e.symm
      rw [h1]
      by_cases hm : Lib.indexByte r c = -1
      · rw [hm] at ih ⊢
        simp only [Bool.false_eq_true, if_false, beq_self_eq_true, if_true, List.mem_cons, h2, false_or]
        exact ih
      · have h3 : (Lib.indexByte r c == -1) = false := by simpa using hm
        rw [h3]
        simp only [Bool.false_eq_true, if_false, List.mem_cons, h2, false_or]
        rw [← ih, decide_eq_decide]
        omega
theorem contains_space (s : List UInt8) (w : World) :
    Calls Tryz.prog 41 #[.string (bs s), .string (bs [32])] w fun e w' => e = .returned (.bool (Lib.contains s [32])) ∧ w = w' :=
  (Tryz.strings_Contains_one (bs s) 32 w).mono fun _ _ ⟨h, hw⟩ => ⟨h.trans (by rw [bs_data, indexByte_in, contains_one]), hw.symm⟩
theorem cut_nl (s : List UInt8) (w : World) (E : Env w) (hs : s.length < 4294967281) :
    Calls Tryz.prog 38 #[.string (bs s), .string (bs [10])] w fun e w' => e = .returned (.tuple #[.string (bs (Lib.cut s [10]).1), .string (bs (Lib.cut s [10]).2.1), .bool (Lib.cut s [10]).2.2]) ∧ Below w.heap.size w w' := by
  obtain ⟨m, hm⟩ := E.max
  exact (Tryz.strings_Cut (bs s) (bs [10]) m w (by rw [bs_size]; exact hs) hm).mono fun _ _ ⟨h, n, hw⟩ => ⟨h, hw ▸ Below.drewN (Below.refl _ _) n⟩
theorem split_vals (c : UInt8) (s : List UInt8) : (Lib.splitB (bs [c]) 0 (Lib.countB (bs s) (bs [c])) (bs s)).map Value.string = (spl c s).map fun x => Value.string (bs x) := by
  have h := Lib.splitB_data (bs [c]) 0 (Lib.countB (bs s) (bs [c])) (bs s)
  have h2 : Lib.splitK [c] 0 (Lib.count s [c]) s = spl c s := splitK_spl c _ s (Nat.le_refl _)
  have h3 : (Lib.splitB (bs [c]) 0 (Lib.countB (bs s) (bs [c])) (bs s)).map (·.data.toList) = spl c s := h.trans h2
  rw [← h3, List.map_map]
  apply List.map_congr_left
  intro x _
  rfl
theorem split_len (c : UInt8) (s : List UInt8) : Lib.countB (bs s) (bs [c]) + 1 = (spl c s).length := by
  have h := congrArg List.length (split_vals c s)
  rw [List.length_map, List.length_map] at h
  rw [← h, Lib.splitB_all (bs [c]) (by rw [bs_size]; exact Nat.le_refl 1) 0 _ (bs s) rfl]
/-- strings.Split at one byte: a new row. -/
theorem split_any (c : UInt8) (s : List UInt8) (w : World) (E : Env w) (hs : s.length < 4294967281) :
    Calls Tryz.prog 40 #[.string (bs s), .string (bs [c])] w fun e w' => e = .returned (.slice (some ⟨w.heap.size, 0, none⟩) (spl c s).length (spl c s).length) ∧ w' = w.alloc (.cells ((spl c s).map fun x => Value.string (bs x)).toArray 9) := by
  obtain ⟨m, hm⟩ := E.max
  refine (Tryz.strings_Split (bs s) (bs [c]) m w (by rw [bs_size]; exact hs) hm (by rw [bs_size]; exact Nat.le_refl 1)).mono ?_
  rintro e w' ⟨h, hw⟩
  rw [split_len] at h
  rw [split_vals] at hw
  exact ⟨h, hw⟩
/-- strings.Join of a slice of strings. -/
theorem join_any (xs : List (List UInt8)) (sep : List UInt8) (A : Option Addr) (cap : Nat) (w : World) (hr : RdS cS w (Lt w) A xs) (hx : xs.length ≤ 100000000) (hcap : xs.length ≤ cap) (hlen : (Lib.join xs sep).length ≤ 140737488355328) :
    Calls Tryz.prog 43 #[.slice A xs.length cap, .string (bs sep)] w fun e w' => e = .returned (.string (bs (Lib.join xs sep))) ∧ Below w.heap.size w w' := by
  by_cases h0 : xs = []
  · subst h0
    exact (Tryz.strings_Join_none A cap (bs sep) w).mono fun _ _ ⟨h, hw⟩ => ⟨h, hw ▸ Below.refl _ _⟩
  · obtain ⟨b, off, hA, hc⟩ := hr.pick rfl
    obtain ⟨rfl, hb⟩ := hA (List.length_pos_iff.2 h0)
    have e1 : (xs.map bs).map (·.data.toList) = xs := by
      rw [List.map_map]
      conv => rhs; rw [← List.map_id xs]
      apply List.map_congr_left
      intro x _
      rfl
    have h := Tryz.strings_Join b off cap (xs.map bs) (bs sep) w (fun j x hj => by
      rw [List.getElem?_map, Option.map_eq_some_iff] at hj
      obtain ⟨y, hy, rfl⟩ := hj
      obtain ⟨u, ⟨hu, _⟩, hcu⟩ := hc j y hy
      simp only [List.cons.injEq, and_true] at hu
      rw [hcu, hu]) hb (by rw [List.length_map]; omega) (by rw [List.length_map]; exact hcap) (by rw [e1]; exact hlen)
    rw [e1, List.length_map] at h
    exact h
end
/-- A new row of strings reads as its list. -/
theorem rds_new (w : World) (xs : List (List UInt8)) (T : TypeId) (g : Nat) (hg : g = w.heap.size) (hx : ∀ x ∈ xs, x.length ≤ maxLen) (S : Nat → Prop) (hS : S g) : RdS cS (w.alloc (.cells (xs.map fun x => Value.string (bs x)).toArray T)) S (some ⟨g, 0, none⟩) xs := by
  subst hg
  refine fun _ => ⟨_, _, rfl, hS, fun i x hi => ⟨[.string (bs x)], ⟨rfl, hx x (List.mem_of_getElem? hi)⟩, fun j u hu => ?_⟩⟩
  match j, hu with
  | 0, hu =>
    simp at hu
    subst hu
    rw [World.cell?_alloc_at _ _ _ _ rfl]
    have : 0 + i * cS.size + 0 = i := by simp [cS]
    rw [this]
    simp [hi]
  | j + 1, hu => simp at hu
end Go.Proofs.YtlblfblkallnhaaGreatDoor
