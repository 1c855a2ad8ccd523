/- The walk of the law JournalChained. -/
import Derived.Test.YtnckainiphlndaaDoorJnChainB
import Derived.Test.YtnckainiphlndaaDoorJnLawsA
import Derived.Laws.BitsLemmas
import Derived.Deep.Cut
import Derived.Deep.AppendSrc
namespace Go.Proofs.YtnckainiphlndaaDoor
set_option linter.unusedVariables false
set_option linter.unusedSimpArgs false
open Go.RowKit
attribute [local go_sem] bs_size bs_get bs_append bs_extract bs_toList
attribute [-go_sem] run_min_int2
structure Chg where
  pos : Int
  kind : Int
  time : Int
  text : List UInt8
  sum : Nat
def chgV (x : Chg) : List Value := [.int .i64 x.pos, .int .i64 x.kind, .int .i64 x.time, .string (bs x.text), .int .u64 (x.sum : Int)]
def chgO (x : Chg) : Prop := (I64n x.pos ∧ I64n x.kind) ∧ entO ⟨x.time, x.text, x.sum⟩
theorem and1023 (n : Int) : bits .and .i64 n 1023 = n % 1024 := by
  have h127 : (BitVec.ofInt 64 1023).toNat = 2 ^ 10 - 1 := by decide
  have key : (BitVec.ofInt 64 n &&& BitVec.ofInt 64 1023).toNat = (n % ((2 ^ 64 : Nat) : Int)).toNat % 2 ^ 10 := by
    rw [BitVec.toNat_and, BitVec.toNat_ofInt, h127, Nat.and_two_pow_sub_one_eq_mod]
  show IntKind.i64.wrap ((BitVec.ofInt 64 n &&& BitVec.ofInt 64 1023).toNat : Nat) = n % 1024
  rw [key, IntKind.wrap_i64]
  omega
theorem and3 (n : Int) : bits .and .i64 n 3 = n % 4 := by
  have h127 : (BitVec.ofInt 64 3).toNat = 2 ^ 2 - 1 := by decide
  have key : (BitVec.ofInt 64 n &&& BitVec.ofInt 64 3).toNat = (n % ((2 ^ 64 : Nat) : Int)).toNat % 2 ^ 2 := by
    rw [BitVec.toNat_and, BitVec.toNat_ofInt, h127, Nat.and_two_pow_sub_one_eq_mod]
  show IntKind.i64.wrap ((BitVec.ofInt 64 n &&& BitVec.ofInt 64 3).toNat : Nat) = n % 4
  rw [key, IntKind.wrap_i64]
  omega
theorem and1023_nat (n : Int) : ∃ a : Nat, a < 1024 ∧ bits .and .i64 n 1023 = (a : Int) := ⟨(n % 1024).toNat, by omega, by rw [and1023]; omega⟩
theorem and3_nat (n : Int) : ∃ a : Nat, a < 4 ∧ bits .and .i64 n 3 = (a : Int) := ⟨(n % 4).toNat, by omega, by rw [and3]; omega⟩
theorem and3_cases (n : Int) : (bits .and .i64 n 3 = 0 ∨ bits .and .i64 n 3 = 1) ∨ (bits .and .i64 n 3 = 2 ∨ bits .and .i64 n 3 = 3) := by rw [and3]; omega
theorem KRow.at {w : World} {T : TypeId} {g cap : Nat} {l : List Ent} (h : KRow w T g cap l) {i : Nat} (hi : i < l.length) : (w.cell? ⟨g, i * 3, none⟩ = some (.int .i64 l[i].time) ∧ w.cell? ⟨g, i * 3 + 1, none⟩ = some (.string (bs l[i].text)) ∧ w.cell? ⟨g, i * 3 + 2, none⟩ = some (.int .u64 (l[i].sum : Int))) ∧ ∀ q, w.frozen? ⟨g, q, none⟩ = false := by
  obtain ⟨b, off, h1, _, _, h2, h3, h4⟩ := ent_at h.rds hi
  obtain ⟨cur, h5, _⟩ := h
  simp only [Option.some.injEq, Addr.mk.injEq, and_true] at h1
  obtain ⟨rfl, rfl⟩ := h1
  rw [Nat.zero_add] at h2 h3 h4
  exact ⟨⟨h2, h3, h4⟩, fun q => h5.free q⟩
/-- append(k[:i], k[i+1:]...) on a row of the call's own: one entry less. -/
theorem step_drop {P : Program} {ops : Array Oper} {o : Oper} {a : Act} {w : World} {K : Act → World → Prop} {Q : Exit → Act → World → Prop} {E : Prop}
    (hg : o.guard = none) (s x : Operand) (t : TypeId) (hop : o.op = Op.call { callee := Callee.builtin Builtin.append, args := #[s, x], argTypes := #[t, t] })
    (e : TypeId) (i0 : TypeInfo) (h1 : P.underlying t = some (.slice e)) (h2 : P.info? e = some i0) (h4 : i0.size = 3)
    {T : TypeId} {g cap i : Nat} {l : List Ent} (h : KRow w T g cap l) (hi : i < l.length)
    (o1 n c1 q m c2 : Nat) (hs : a.eval s = .slice (some ⟨g, o1, none⟩) n c1) (hx : a.eval x = .slice (some ⟨g, q, none⟩) m c2) (ho1 : o1 = 0) (hn : n = i) (hc1 : c1 = cap) (hq : q = (i + 1) * 3) (hm : m = l.length - (i + 1))
    (hK : K (a.put o.dst (.slice (some ⟨g, 0, none⟩) (i + (l.length - (i + 1))) cap)) (w.setCells g (i * 3) (cellsE (l.drop (i + 1))))) :
    if Region.wanted o (yielded ops a.tmps) = true then Oper.wp P o a w K Q else E := by
  subst ho1 hn hc1 hq hm
  have hw : Region.wanted o (yielded ops a.tmps) = true := by simp [Region.wanted, hg]
  rw [if_pos hw]
  have hlen : (cellsE (l.drop (n + 1))).length = (l.length - (n + 1)) * 3 := by rw [cellsE_len, List.length_drop]
  have hcap := h.cap_le
  have hcell : ∀ j u, (cellsE l)[j]? = some u → w.cell? ⟨g, j, none⟩ = some u := fun j u hu => by
    have := rds_cells h.rds rfl j u hu
    rwa [Addr.add_lit, Nat.zero_add] at this
  have hsp : cellsE l = cellsE (l.take (n + 1)) ++ cellsE (l.drop (n + 1)) := by rw [← cellsE_append, List.take_append_drop]
  have htl : (cellsE (l.take (n + 1))).length = (n + 1) * 3 := by rw [cellsE_len, List.length_take, Nat.min_eq_left (by omega)]
  have hsrc : Src P i0.size t (.slice (some ⟨g, (n + 1) * 3, none⟩) (l.length - (n + 1)) c2) (l.length - (n + 1)) (cellsE (l.drop (n + 1))) w := by
    rw [h4]
    refine Src.ofSlice w h1 ⟨g, (n + 1) * 3, none⟩ _ c2 _ hlen (fun j u hu => ?_) (cellsE_cell _)
    rw [Addr.add_lit]
    refine hcell _ u ?_
    rw [hsp, List.getElem?_append_right (by omega), htl, show (n + 1) * 3 + j - (n + 1) * 3 = j by omega]
    exact hu
  have hll : (cellsE l).length = l.length * 3 := cellsE_len l
  have hfr : ∀ q, w.frozen? ⟨g, q, none⟩ = false := by
    obtain ⟨cur, hb, _⟩ := h
    exact fun q => hb.free q
  have hrun := run_append_room_src (P := P) w t t o.type e i0 h1 h2 g 0 n c1 _ _ _ hsrc (by omega) (fun j hj => by
    rw [h4, Nat.zero_add]
    rw [hlen] at hj
    have hq : n * 3 + j < (cellsE l).length := by omega
    rw [hcell _ _ (List.getElem?_eq_getElem hq)]
    rfl) (fun j hj => hfr _)
  rw [h4, Nat.zero_add] at hrun
  unfold Oper.wp
  simp [execOp, hop, resolve, invoke, builtin, hs, hx, hrun, Result.andThen]
  exact hK
theorem jsameN {a b : List Ent} {r : Bool} {n : Nat} (h : decide (a = b) = r) (hn : b.length = n) (A B : Option Addr) (ca cb : Nat) (w : World) (ha : RdS cE w (Lt w) A a) (hb : RdS cE w (Lt w) B b) (la : a.length ≤ 600) (lb : n ≤ 600) :
    Calls Tryd.prog 12 #[.slice A a.length ca, .slice B n cb] w fun e w' => e = .returned (.bool r) ∧ Below w.heap.size w w' := hn ▸ jsameC h A B ca cb w ha hb (by unfold maxLen; omega) (by unfold maxLen; omega)
theorem verifyN {j : List Ent} {v : Int} {n : Nat} (h : verF j = v) (hn : j.length = n) (A : Option Addr) (cap : Nat) (w : World) (E : Env w) (hr : RdS cE w (Lt w) A j) (hl : n ≤ 600) (hcap : n ≤ cap) :
    Calls Tryd.prog 14 #[.slice A n cap] w fun e w' => e = .returned (.int .i64 v) ∧ Below w.heap.size w w' := hn ▸ verifyC h A cap w E hr (by unfold maxLen; omega) (by omega)
theorem rverifyN {j : List Ent} {v : Int} {n : Nat} (h : verF j = v) (hn : j.length = n) (A : Option Addr) (cap : Nat) (w : World) (E : Env w) (hr : RdS cE w (Lt w) A j) (hl : n ≤ 600) (hcap : n ≤ cap) :
    Calls Tryd.prog 13 #[.slice A n cap] w fun e w' => e = .returned (.int .i64 v) ∧ Below w.heap.size w w' := hn ▸ rverifyC h A cap w E hr (by unfold maxLen; omega) (by omega)
theorem min60 (n : Nat) : ∃ m : Nat, m = min n 60 ∧ ∀ W, (Builtin.min_ #[3, 3] 3 #[.int .i64 (n : Int), .int .i64 60]).run Tryd.prog W = .ok (.int .i64 (m : Int)) W := by
  refine ⟨min n 60, rfl, fun W => ?_⟩
  rw [run_min_int2]
  congr 2
  split <;> omega
/-- What the law's end wants of the changed journal. -/
theorem tail_n {j k : List Ent} {i : Nat} (hv : verF j = -1) (h : verF k = -1 ∨ (0 ≤ verF k ∧ verF k ≤ i + 1)) : (j = k → verF k = -1) := fun e => e ▸ hv
end Go.Proofs.YtnckainiphlndaaDoor
