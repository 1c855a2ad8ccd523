/- MessageCuts: for every argument. -/
import Derived.Test.YtlpkkcodmoklaaaMsgAlive
import Derived.Test.YtlpkkcodmoklaaaMsgLawsC
import Derived.Test.YtlpkkcodmoklaaaAInv
import Derived.Maps.AppendAt
import Derived.Deep.Cut
import Derived.Deep.CutRange
namespace Go.Proofs.Ytlpkkcodmoklaaa
set_option linter.unusedVariables false
set_option linter.unusedSimpArgs false
open Go.RowKit
def wr64 (n : Int) : Int := wrap64 n
theorem wr64_ne {x n : Int} (hx : I64n x) (hn : I64n n) (h : n ≠ 0) : ¬ wr64 (x + n) = x := by
  unfold I64n at hx hn
  unfold wr64 wrap64
  omega
theorem wr64_ok (x : Int) : I64n (wr64 x) := by
  unfold I64n wr64 wrap64
  omega
def cutA (m : Msg) (n : Int) : Msg := { m with acc := wr64 (m.acc + n) }
def cutB (m : Msg) (n : Int) : Msg := { m with aseq := wr64 (m.aseq + n) }
def cutC (m : Msg) (n : Int) : Msg := { m with links := m.links ++ [(n, n)] }
section
variable {m : Msg} {n : Int}
theorem cutA_ne (om : m.Ok) (hn : I64n n) (h : n ≠ 0) : sameM (cutA m n) m = false := by
  cases hs : sameM (cutA m n) m with
  | false => rfl
  | true =>
    have := congrArg Msg.acc (sameM_iff.1 hs)
    exact absurd this (wr64_ne om.acc hn h)
theorem cutB_ne (om : m.Ok) (hn : I64n n) (h : n ≠ 0) : sameM (cutB m n) m = false := by
  cases hs : sameM (cutB m n) m with
  | false => rfl
  | true =>
    have := congrArg Msg.aseq (sameM_iff.1 hs)
    exact absurd this (wr64_ne om.aseq hn h)
theorem cutC_ne : sameM (cutC m n) m = false := by
  cases hs : sameM (cutC m n) m with
  | false => rfl
  | true =>
    have h1 := congrArg (fun x => x.links.length) (sameM_iff.1 hs)
    simp [cutC] at h1
theorem cutA_valid (om : m.Ok) (hn : I64n n) (h : n ≠ 0) (hv : validB m = true) (hk : (m.kind == 1) = false) : validB (cutA m n) = false := by
  obtain ⟨_, _, _, v4⟩ := valid_parts hv
  have h0 := (v4 hk).2.2.2.1
  have hne := wr64_ne (x := m.acc) om.acc hn h
  rw [h0] at hne
  have : repB (cutA m n) = false := by
    unfold repB
    have e : ((cutA m n).kind == 1) = false := hk
    rw [e]
    have e2 : ((cutA m n).acc == 0) = false := by
      rw [beq_eq_false_iff_ne]
      show wr64 (m.acc + n) ≠ 0
      rw [h0]; exact hne
    simp [e2]
  unfold validB
  rw [this, Bool.and_false]
theorem cutB_valid (om : m.Ok) (hn : I64n n) (h : n ≠ 0) (hv : validB m = true) (hk : carB m.kind = false) : validB (cutB m n) = false := by
  obtain ⟨_, _, v3, _⟩ := valid_parts hv
  have h0 := (v3 hk).1
  have hne := wr64_ne (x := m.aseq) om.aseq hn h
  rw [h0] at hne
  have : authB (cutB m n) = false := by
    unfold authB
    have e : carB (cutB m n).kind = false := hk
    rw [e]
    have e2 : ((cutB m n).aseq == 0) = false := by
      rw [beq_eq_false_iff_ne]
      show wr64 (m.aseq + n) ≠ 0
      rw [h0]; exact hne
    simp [e2]
  unfold validB
  rw [this]
  simp
theorem cutC_valid (hk : carB m.kind = false) : validB (cutC m n) = false := by
  have : authB (cutC m n) = false := by
    unfold authB
    have e : carB (cutC m n).kind = false := hk
    rw [e]
    simp [cutC]
  unfold validB
  rw [this]
  simp
theorem cutA_ok (om : m.Ok) : (cutA m n).Ok := ⟨om.kind, om.fro, om.to, om.seq, om.time, om.aseq, om.aend, om.min, om.speed, om.mode, wr64_ok _, om.prof, om.links⟩
theorem cutB_ok (om : m.Ok) : (cutB m n).Ok := ⟨om.kind, om.fro, om.to, om.seq, om.time, wr64_ok _, om.aend, om.min, om.speed, om.mode, om.acc, om.prof, om.links⟩
end
theorem flat_at {α : Type} {n : Nat} {cells : α → List Value} (hn : ∀ a, (cells a).length = n) {j : Nat} (hj : j < n) : ∀ (l : List α) (i : Nat) (x : α), l[i]? = some x → (l.flatMap cells)[i * n + j]? = (cells x)[j]? := by
  intro l
  induction l with
  | nil => intro i x hx; simp at hx
  | cons y r ih =>
    intro i x hx
    rw [List.flatMap_cons]
    cases i with
    | zero =>
      simp at hx
      subst hx
      rw [Nat.zero_mul, Nat.zero_add, List.getElem?_append_left (by rw [hn]; exact hj)]
    | succ i =>
      simp at hx
      rw [List.getElem?_append_right (by rw [hn, Nat.succ_mul]; omega), hn, show (i + 1) * n + j - n = i * n + j by rw [Nat.succ_mul]; omega]
      exact ih i x hx
theorem flat_len' {α : Type} {n : Nat} {cells : α → List Value} (hn : ∀ a, (cells a).length = n) : ∀ l : List α, (l.flatMap cells).length = l.length * n
  | [] => by simp
  | x :: l => by rw [List.flatMap_cons, List.length_append, hn, flat_len' hn l, List.length_cons, Nat.succ_mul]; omega
theorem run_app_nil {P : Program} (w : World) (base : Nat) (t ty e : TypeId) (i : TypeInfo) (size : Nat) (ht : P.underlying t = some (.slice e)) (hi : P.info? e = some i)
    (v : Value) (n : Nat) (xs : List Value) (hown : w.ownsRow base e size v n xs) (c : Nat) : (Builtin.append_ #[t, t] ty #[v, .slice none 0 c]).run P w = .ok v w := by
  rcases hown.2 with ⟨rfl, rfl⟩ | ⟨g, cap, cur, rfl, _, _, hnc, _⟩
  · simp [Builtin.append_, run_underlying ht, sizeOf, typeInfo, hi, Builtin.lenOf, Builtin.firstCells]
  · simp [Builtin.append_, run_underlying ht, sizeOf, typeInfo, hi, Builtin.lenOf, Builtin.firstCells, hnc, storeCells]
theorem wpList_append_rd {P : Program} {w : World} {ops : Array Oper} {rest : List Oper} {o : Oper} {a : Act} {Q : Exit → Act → World → Prop} {α : Type} {sz : Nat} {cells : α → List Value} {ok : α → Prop} {hn : ∀ a, (cells a).length = sz} (hgd : o.guard = none) (s x : Operand) (t : TypeId)
    (ho : o.op = .call { callee := .builtin .append, args := #[s, x], argTypes := #[t, t] })
    (base : Nat) (e : TypeId) (i : TypeInfo) (z : Value) (bytes : Nat) (ht : P.underlying t = some (.slice e)) (hi : P.info? e = some i) (hz : i.zero = some z) (hsize : i.size = sz) (hby : i.bytes = bytes) (hzs : z.cells.size = sz) (hsz : 0 < sz)
    (v : Value) (n : Nat) (xs : List Value) (hs : a.eval s = v) (hown : w.ownsRow base e sz v n xs) (B : Nat) (A : Option Addr) (c : Nat) (l : List α) (hx : a.eval x = .slice A l.length c) (hR : RdS (cF sz cells ok hn) w B A l)
    (h1 : ∀ u ∈ l.flatMap cells, u.oneCell' = true) (h63 : n + l.length ≤ maxLen) (hbytes : (n + l.length) * bytes ≤ 140737488355328) (hbase : base ≤ w.heap.size)
    (h : ∀ v' w', w'.ownsRow base e sz v' (n + l.length) (xs ++ l.flatMap cells) → w.grownBy w' v.ownBlock → wpList P ops Q rest (a.put o.dst v') w') : wpList P ops Q (o :: rest) a w := by
  cases A with
  | none =>
    have hl : l = [] := by
      cases l with
      | nil => rfl
      | cons y r =>
        obtain ⟨_, _, e, _⟩ := hR (by simp)
        cases e
    subst hl
    refine wpList_plain hgd fun K hK => ?_
    have hrun := run_app_nil w base t o.type e i sz ht hi v n xs hown c
    unfold Oper.wp
    simp only [List.length_nil] at hx
    simp [execOp, ho, resolve, invoke, builtin, hs, hx, hrun, Result.andThen]
    exact hK _ _ (h v w (by simpa using hown) (World.grownBy.refl w _))
  | some ad =>
    refine wpList_append_own _ hgd s x t ho base e i z sz bytes ht hi hz hsize hby hzs hsz v n xs hs hown ad l.length c (l.flatMap cells) hx (flat_len' hn l) ?_ h1 h63 hbytes hbase (fun v' w' h2 h3 _ => h v' w' h2 h3)
    intro j u hj
    have hjl : j < l.length * sz := by have := (List.getElem?_eq_some_iff.1 hj).1; rwa [flat_len' hn] at this
    have hil : j / sz < l.length := by rw [Nat.div_lt_iff_lt_mul hsz]; exact hjl
    have hr : j % sz < sz := Nat.mod_lt _ hsz
    obtain ⟨b, off, hA, hb, hel⟩ := hR (Nat.lt_of_le_of_lt (Nat.zero_le _) hil)
    obtain ⟨ys, ⟨hys, _⟩, hc⟩ := hel (j / sz) l[j / sz] (List.getElem?_eq_getElem hil)
    have hk := flat_at hn hr l (j / sz) l[j / sz] (List.getElem?_eq_getElem hil)
    have ej : j / sz * sz + j % sz = j := Nat.div_add_mod' j sz
    rw [ej, hj] at hk
    have := hc (j % sz) u (by rw [hys, hk])
    have hAd : ad = ⟨b, off, none⟩ := by simpa using hA
    rw [hAd, add_lit']
    have e2 : off + j / sz * (cF sz cells ok hn).size + j % sz = off + j := by
      show off + j / sz * sz + j % sz = off + j
      rw [Nat.add_assoc, ej]
    rw [e2] at this
    exact this
/-- The boxes of the three messages that were cut, and of the message. -/
structure CutJ (w : World) (m : Msg) (n : Int) (A : Option Addr) (c : Nat) (A' : Option Addr) (c' : Nat) (A2 : Option Addr) (c2 : Nat) (b5 b6 b7 : Nat) (w' : World) : Prop where
  x5 : Blk w' b5 69 #[.int .i64 m.kind, .int .i64 m.fro, .int .i64 m.to, .int .i64 m.seq, .int .i64 m.time, .int .i64 m.aseq, .int .i64 m.aend, .slice A m.prof.length c, .slice A' m.links.length c', .int .i64 m.min, .int .i64 m.speed, .int .i64 m.mode, .int .i64 (wrap64 (m.acc + n)), .bool m.whole]
  x6 : Blk w' b6 69 #[.int .i64 m.kind, .int .i64 m.fro, .int .i64 m.to, .int .i64 m.seq, .int .i64 m.time, .int .i64 (wrap64 (m.aseq + n)), .int .i64 m.aend, .slice A m.prof.length c, .slice A' m.links.length c', .int .i64 m.min, .int .i64 m.speed, .int .i64 m.mode, .int .i64 m.acc, .bool m.whole]
  x7 : Blk w' b7 69 #[.int .i64 m.kind, .int .i64 m.fro, .int .i64 m.to, .int .i64 m.seq, .int .i64 m.time, .int .i64 m.aseq, .int .i64 m.aend, .slice A m.prof.length c, .slice A2 (m.links.length + 1) c2, .int .i64 m.min, .int .i64 m.speed, .int .i64 m.mode, .int .i64 m.acc, .bool m.whole]
  inv : Inv1 w w.heap.size m A c A' c' w'
  rc : RdS cLnk w' w'.heap.size A2 (m.links ++ [(n, n)])
theorem CutJ.step {w w1 w2 : World} {m : Msg} {n : Int} {A A' A2 : Option Addr} {c c' c2 b5 b6 b7 : Nat} (h : CutJ w m n A c A' c' A2 c2 b5 b6 b7 w1) (hb : Below w1.heap.size w1 w2) : CutJ w m n A c A' c' A2 c2 b5 b6 b7 w2 :=
  ⟨h.x5.now hb, h.x6.now hb, h.x7.now hb, h.inv.step hb, h.rc.now hb⟩
theorem news_two (w : World) (x y : Value) (tt : TypeId) : ∀ (j : Nat) (u : Value), [x, y][j]? = some u → (w.alloc (.cells #[x, y] tt)).cell? ((⟨w.heap.size, 0, none⟩ : Addr).add j) = some u := by
  intro j u hj
  match j, hj with
  | 0, hj => simp at hj; subst hj; simp [Addr.add]
  | 1, hj => simp at hj; subst hj; simp [Addr.add]
  | j + 2, hj => simp at hj
theorem one_two (a b : Int) : ∀ u ∈ [Value.int .i64 a, Value.int .i64 b], u.oneCell' = true := by
  intro u hu
  simp at hu
  rcases hu with rfl | rfl <;> rfl
theorem own_links {w : World} {base : Nat} {v : Value} {l : List Lnk} {n : Int} (h : w.ownsRow base 77 2 v (0 + l.length + 1) ([] ++ l.flatMap Lnk.cells ++ Lnk.cells (n, n))) : w.ownsRow base 77 2 v (l ++ [(n, n)]).length ((l ++ [(n, n)]).flatMap Lnk.cells) := by
  have e1 : (l ++ [(n, n)]).length = 0 + l.length + 1 := by simp
  have e2 : (l ++ [(n, n)]).flatMap Lnk.cells = [] ++ l.flatMap Lnk.cells ++ Lnk.cells (n, n) := by simp
  rw [e1, e2]; exact h
theorem oks_snoc {l : List Lnk} {n : Int} (h : ∀ s ∈ l, Lnk.ok s) (hn : I64n n) : ∀ s ∈ l ++ [(n, n)], Lnk.ok s := by
  intro s hs
  rcases List.mem_append.1 hs with hs | hs
  · exact h s hs
  · simp at hs
    subst hs
    exact ⟨hn, hn⟩
/-- Three boxes hold the message once more. -/
structure CutI (w w2 : World) (m : Msg) (A : Option Addr) (c : Nat) (A' : Option Addr) (c' : Nat) (b5 b6 b7 : Nat) (w' : World) : Prop where
  x5 : Blk w' b5 69 #[.int .i64 m.kind, .int .i64 m.fro, .int .i64 m.to, .int .i64 m.seq, .int .i64 m.time, .int .i64 m.aseq, .int .i64 m.aend, .slice A m.prof.length c, .slice A' m.links.length c', .int .i64 m.min, .int .i64 m.speed, .int .i64 m.mode, .int .i64 m.acc, .bool m.whole]
  x6 : Blk w' b6 69 #[.int .i64 m.kind, .int .i64 m.fro, .int .i64 m.to, .int .i64 m.seq, .int .i64 m.time, .int .i64 m.aseq, .int .i64 m.aend, .slice A m.prof.length c, .slice A' m.links.length c', .int .i64 m.min, .int .i64 m.speed, .int .i64 m.mode, .int .i64 m.acc, .bool m.whole]
  x7 : Blk w' b7 69 #[.int .i64 m.kind, .int .i64 m.fro, .int .i64 m.to, .int .i64 m.seq, .int .i64 m.time, .int .i64 m.aseq, .int .i64 m.aend, .slice A m.prof.length c, .slice A' m.links.length c', .int .i64 m.min, .int .i64 m.speed, .int .i64 m.mode, .int .i64 m.acc, .bool m.whole]
  below : Below w2.heap.size w2 w'
  l5 : w2.heap.size ≤ b5
  l6 : w2.heap.size ≤ b6
  l7 : w2.heap.size ≤ b7
  n56 : ¬ b5 = b6
  n57 : ¬ b5 = b7
  n67 : ¬ b6 = b7
set_option maxRecDepth 100000 in
set_option maxHeartbeats 16000000 in
theorem messageCuts_no0 (m : Msg) (A : Option Addr) (c : Nat) (A' : Option Addr) (c' : Nat) (n : Int) (w : World) (om : m.Ok) (hm : RdS cSeg w w.heap.size A m.prof) (hm' : RdS cLnk w w.heap.size A' m.links) (h0 : fewB m = false) : Calls Try.prog 19 #[.agg #[.int .i64 m.kind, .int .i64 m.fro, .int .i64 m.to, .int .i64 m.seq, .int .i64 m.time, .int .i64 m.aseq, .int .i64 m.aend, .slice A m.prof.length c, .slice A' m.links.length c', .int .i64 m.min, .int .i64 m.speed, .int .i64 m.mode, .int .i64 m.acc, .bool m.whole], .int .i64 n] w fun e w' => e = .returned (.bool true) ∧ Below w.heap.size w w' := by
  have e63 : maxLen ≤ 9223372036854775807 := by decide
  have lm : m.prof.length ≤ 9223372036854775807 := Nat.le_trans om.prof e63
  have lm' : m.links.length ≤ 9223372036854775807 := Nat.le_trans om.links e63
  clear e63
  have hI := Inv1.start (c := c) (c' := c') hm hm'
  clear hm hm'
  have H0 := Lib.hid h0
  clear h0
  go_enter Try.func19, Try.ntmps19
  go_wp2_with fail
  refine (few_any m A c A' c' _ lm lm').mono ?_
  rw [H0.out]
  rintro e w1 ⟨rfl, hb⟩
  have hI1 := hI.step hb
  clear hI hb
  go_wp2_with fail
  refine (alive37 _).mono ?_
  rintro e w9 ⟨rfl, hb⟩
  go_wp2_with fail
  go_ret
  exact ⟨rfl, (hI1.step hb).below⟩
set_option maxRecDepth 100000 in
set_option maxHeartbeats 16000000 in
theorem messageCuts_no1 (m : Msg) (A : Option Addr) (c : Nat) (A' : Option Addr) (c' : Nat) (n : Int) (w : World) (om : m.Ok) (hm : RdS cSeg w w.heap.size A m.prof) (hm' : RdS cLnk w w.heap.size A' m.links) (h0 : fewB m = true) (h1 : validB m = false) : Calls Try.prog 19 #[.agg #[.int .i64 m.kind, .int .i64 m.fro, .int .i64 m.to, .int .i64 m.seq, .int .i64 m.time, .int .i64 m.aseq, .int .i64 m.aend, .slice A m.prof.length c, .slice A' m.links.length c', .int .i64 m.min, .int .i64 m.speed, .int .i64 m.mode, .int .i64 m.acc, .bool m.whole], .int .i64 n] w fun e w' => e = .returned (.bool true) ∧ Below w.heap.size w w' := by
  have e63 : maxLen ≤ 9223372036854775807 := by decide
  have lm : m.prof.length ≤ 9223372036854775807 := Nat.le_trans om.prof e63
  have lm' : m.links.length ≤ 9223372036854775807 := Nat.le_trans om.links e63
  clear e63
  have hI := Inv1.start (c := c) (c' := c') hm hm'
  clear hm hm'
  have H0 := Lib.hid h0
  have H1 := Lib.hid h1
  clear h0 h1
  go_enter Try.func19, Try.ntmps19
  go_wp2_with fail
  refine (few_any m A c A' c' _ lm lm').mono ?_
  rw [H0.out]
  rintro e w1 ⟨rfl, hb⟩
  have hI1 := hI.step hb
  clear hI hb
  have y0 := hI1.box1.cell 0
  have y1 := hI1.box1.cell 1
  have y2 := hI1.box1.cell 2
  have y3 := hI1.box1.cell 3
  have y4 := hI1.box1.cell 4
  have y5 := hI1.box1.cell 5
  have y6 := hI1.box1.cell 6
  have y7 := hI1.box1.cell 7
  have y8 := hI1.box1.cell 8
  have y9 := hI1.box1.cell 9
  have y10 := hI1.box1.cell 10
  have y11 := hI1.box1.cell 11
  have y12 := hI1.box1.cell 12
  have y13 := hI1.box1.cell 13
  simp only [List.getElem?_toArray, List.getElem?_cons_succ, List.getElem?_cons_zero] at y0 y1 y2 y3 y4 y5 y6 y7 y8 y9 y10 y11 y12 y13
  go_wp2_with fail
  refine (valid_any m A c A' c' _ lm lm' hI1.m1 hI1.m2).mono ?_
  rw [H1.out]
  rintro e w2 ⟨rfl, hb⟩
  have hI2 := hI1.step hb
  clear y0 y1 y2 y3 y4 y5 y6 y7 y8 y9 y10 y11 y12 y13
  clear hI1 hb
  go_wp2_with fail
  refine (alive37 _).mono ?_
  rintro e w9 ⟨rfl, hb⟩
  go_wp2_with fail
  go_ret
  exact ⟨rfl, (hI2.step hb).below⟩
set_option maxRecDepth 100000 in
set_option maxHeartbeats 16000000 in
theorem messageCuts_no2 (m : Msg) (A : Option Addr) (c : Nat) (A' : Option Addr) (c' : Nat) (n : Int) (w : World) (om : m.Ok) (hm : RdS cSeg w w.heap.size A m.prof) (hm' : RdS cLnk w w.heap.size A' m.links) (h0 : fewB m = true) (h1 : validB m = true) (hn : (n == 0) = true) : Calls Try.prog 19 #[.agg #[.int .i64 m.kind, .int .i64 m.fro, .int .i64 m.to, .int .i64 m.seq, .int .i64 m.time, .int .i64 m.aseq, .int .i64 m.aend, .slice A m.prof.length c, .slice A' m.links.length c', .int .i64 m.min, .int .i64 m.speed, .int .i64 m.mode, .int .i64 m.acc, .bool m.whole], .int .i64 n] w fun e w' => e = .returned (.bool true) ∧ Below w.heap.size w w' := by
  have e63 : maxLen ≤ 9223372036854775807 := by decide
  have lm : m.prof.length ≤ 9223372036854775807 := Nat.le_trans om.prof e63
  have lm' : m.links.length ≤ 9223372036854775807 := Nat.le_trans om.links e63
  clear e63
  have hI := Inv1.start (c := c) (c' := c') hm hm'
  clear hm hm'
  have H0 := Lib.hid h0
  have H1 := Lib.hid h1
  clear h0 h1
  go_enter Try.func19, Try.ntmps19
  go_wp2_with fail
  refine (few_any m A c A' c' _ lm lm').mono ?_
  rw [H0.out]
  rintro e w1 ⟨rfl, hb⟩
  have hI1 := hI.step hb
  clear hI hb
  have y0 := hI1.box1.cell 0
  have y1 := hI1.box1.cell 1
  have y2 := hI1.box1.cell 2
  have y3 := hI1.box1.cell 3
  have y4 := hI1.box1.cell 4
  have y5 := hI1.box1.cell 5
  have y6 := hI1.box1.cell 6
  have y7 := hI1.box1.cell 7
  have y8 := hI1.box1.cell 8
  have y9 := hI1.box1.cell 9
  have y10 := hI1.box1.cell 10
  have y11 := hI1.box1.cell 11
  have y12 := hI1.box1.cell 12
  have y13 := hI1.box1.cell 13
  simp only [List.getElem?_toArray, List.getElem?_cons_succ, List.getElem?_cons_zero] at y0 y1 y2 y3 y4 y5 y6 y7 y8 y9 y10 y11 y12 y13
  go_wp2_with fail
  refine (valid_any m A c A' c' _ lm lm' hI1.m1 hI1.m2).mono ?_
  rw [H1.out]
  rintro e w2 ⟨rfl, hb⟩
  have hI2 := hI1.step hb
  clear y0 y1 y2 y3 y4 y5 y6 y7 y8 y9 y10 y11 y12 y13
  clear hI1 hb
  go_wp2_with fail
  refine (alive37 _).mono ?_
  rintro e w9 ⟨rfl, hb⟩
  go_wp2_with fail
  go_ret
  exact ⟨rfl, (hI2.step hb).below⟩
set_option maxRecDepth 100000 in
set_option maxHeartbeats 16000000 in
theorem messageCuts_yes (m : Msg) (A : Option Addr) (c : Nat) (A' : Option Addr) (c' : Nat) (n : Int) (w : World) (om : m.Ok) (hm : RdS cSeg w w.heap.size A m.prof) (hm' : RdS cLnk w w.heap.size A' m.links) (h0 : fewB m = true) (h1 : validB m = true) (hn : (n == 0) = false) (hni : I64n n) : Calls Try.prog 19 #[.agg #[.int .i64 m.kind, .int .i64 m.fro, .int .i64 m.to, .int .i64 m.seq, .int .i64 m.time, .int .i64 m.aseq, .int .i64 m.aend, .slice A m.prof.length c, .slice A' m.links.length c', .int .i64 m.min, .int .i64 m.speed, .int .i64 m.mode, .int .i64 m.acc, .bool m.whole], .int .i64 n] w fun e w' => e = .returned (.bool true) ∧ Below w.heap.size w w' := by
  obtain ⟨i0, hi0, hz0, hs0, hby0⟩ := info_parts info77
  have e63 : maxLen ≤ 9223372036854775807 := by decide
  have lm : m.prof.length ≤ 9223372036854775807 := Nat.le_trans om.prof e63
  have lm' : m.links.length ≤ 9223372036854775807 := Nat.le_trans om.links e63
  clear e63
  have hI := Inv1.start (c := c) (c' := c') hm hm'
  clear hm hm'
  have H0 := Lib.hid h0
  have H1 := Lib.hid h1
  clear h0 h1
  go_enter Try.func19, Try.ntmps19
  go_wp2_with fail
  refine (few_any m A c A' c' _ lm lm').mono ?_
  rw [H0.out]
  rintro e w1 ⟨rfl, hb⟩
  have hI1 := hI.step hb
  clear hI hb
  have y0 := hI1.box1.cell 0
  have y1 := hI1.box1.cell 1
  have y2 := hI1.box1.cell 2
  have y3 := hI1.box1.cell 3
  have y4 := hI1.box1.cell 4
  have y5 := hI1.box1.cell 5
  have y6 := hI1.box1.cell 6
  have y7 := hI1.box1.cell 7
  have y8 := hI1.box1.cell 8
  have y9 := hI1.box1.cell 9
  have y10 := hI1.box1.cell 10
  have y11 := hI1.box1.cell 11
  have y12 := hI1.box1.cell 12
  have y13 := hI1.box1.cell 13
  simp only [List.getElem?_toArray, List.getElem?_cons_succ, List.getElem?_cons_zero] at y0 y1 y2 y3 y4 y5 y6 y7 y8 y9 y10 y11 y12 y13
  go_wp2_with fail
  refine (valid_any m A c A' c' _ lm lm' hI1.m1 hI1.m2).mono ?_
  rw [H1.out]
  rintro e w2 ⟨rfl, hb⟩
  have hI2 := hI1.step hb
  clear y0 y1 y2 y3 y4 y5 y6 y7 y8 y9 y10 y11 y12 y13
  clear hI1 hb
  go_upto_region 3 with (fail)
  go_cut [5, 6, 7] from 22 to 24 (fun s5 s6 s7 w' => ∃ b5 b6 b7 : Nat, s5 = .pointer (some ⟨b5, 0, none⟩) ∧ s6 = .pointer (some ⟨b6, 0, none⟩) ∧ s7 = .pointer (some ⟨b7, 0, none⟩) ∧ CutI w w2 m A c A' c' b5 b6 b7 w')
  case first =>
    have hz2 := hI2.box1.lt
    have hmk : ∀ w', Below w2.heap.size w2 w' → w'.cell? ⟨w.heap.size, 0, none⟩ = some (.int .i64 m.kind) ∧ w'.cell? ⟨w.heap.size, 1, none⟩ = some (.int .i64 m.fro) ∧ w'.cell? ⟨w.heap.size, 2, none⟩ = some (.int .i64 m.to) ∧ w'.cell? ⟨w.heap.size, 3, none⟩ = some (.int .i64 m.seq) ∧ w'.cell? ⟨w.heap.size, 4, none⟩ = some (.int .i64 m.time) ∧ w'.cell? ⟨w.heap.size, 5, none⟩ = some (.int .i64 m.aseq) ∧ w'.cell? ⟨w.heap.size, 6, none⟩ = some (.int .i64 m.aend) ∧ w'.cell? ⟨w.heap.size, 7, none⟩ = some (.slice A m.prof.length c) ∧ w'.cell? ⟨w.heap.size, 8, none⟩ = some (.slice A' m.links.length c') ∧ w'.cell? ⟨w.heap.size, 9, none⟩ = some (.int .i64 m.min) ∧ w'.cell? ⟨w.heap.size, 10, none⟩ = some (.int .i64 m.speed) ∧ w'.cell? ⟨w.heap.size, 11, none⟩ = some (.int .i64 m.mode) ∧ w'.cell? ⟨w.heap.size, 12, none⟩ = some (.int .i64 m.acc) ∧ w'.cell? ⟨w.heap.size, 13, none⟩ = some (.bool m.whole) ∧ Below w2.heap.size w2 w' := fun w' hq => by
      have k0 := fun o => hq.cell (p := ⟨w.heap.size, o, none⟩) hz2
      exact ⟨(k0 _).trans (hI2.box1.cell 0), (k0 _).trans (hI2.box1.cell 1), (k0 _).trans (hI2.box1.cell 2), (k0 _).trans (hI2.box1.cell 3), (k0 _).trans (hI2.box1.cell 4), (k0 _).trans (hI2.box1.cell 5), (k0 _).trans (hI2.box1.cell 6), (k0 _).trans (hI2.box1.cell 7), (k0 _).trans (hI2.box1.cell 8), (k0 _).trans (hI2.box1.cell 9), (k0 _).trans (hI2.box1.cell 10), (k0 _).trans (hI2.box1.cell 11), (k0 _).trans (hI2.box1.cell 12), (k0 _).trans (hI2.box1.cell 13), hq⟩
    have hS := hmk w2 (Below.refl _ _)
    have HMK := Lib.hid hmk
    clear hmk
    go_region_held3 (fun w' => w'.cell? ⟨w.heap.size, 0, none⟩ = some (.int .i64 m.kind) ∧ w'.cell? ⟨w.heap.size, 1, none⟩ = some (.int .i64 m.fro) ∧ w'.cell? ⟨w.heap.size, 2, none⟩ = some (.int .i64 m.to) ∧ w'.cell? ⟨w.heap.size, 3, none⟩ = some (.int .i64 m.seq) ∧ w'.cell? ⟨w.heap.size, 4, none⟩ = some (.int .i64 m.time) ∧ w'.cell? ⟨w.heap.size, 5, none⟩ = some (.int .i64 m.aseq) ∧ w'.cell? ⟨w.heap.size, 6, none⟩ = some (.int .i64 m.aend) ∧ w'.cell? ⟨w.heap.size, 7, none⟩ = some (.slice A m.prof.length c) ∧ w'.cell? ⟨w.heap.size, 8, none⟩ = some (.slice A' m.links.length c') ∧ w'.cell? ⟨w.heap.size, 9, none⟩ = some (.int .i64 m.min) ∧ w'.cell? ⟨w.heap.size, 10, none⟩ = some (.int .i64 m.speed) ∧ w'.cell? ⟨w.heap.size, 11, none⟩ = some (.int .i64 m.mode) ∧ w'.cell? ⟨w.heap.size, 12, none⟩ = some (.int .i64 m.acc) ∧ w'.cell? ⟨w.heap.size, 13, none⟩ = some (.bool m.whole) ∧ Below w2.heap.size w2 w')
      (first | assumption | (refine HMK.out _ ?_; (repeat' (first | (with_reducible exact Below.refl _ _) | (with_reducible assumption) | (with_reducible refine Below.drewN ?_ _) | (with_reducible refine Below.drew ?_) | (with_reducible refine Below.alloc ?_ ?_ _) | (with_reducible refine Below.setCell ?_ ?_ _) | (with_reducible exact Nat.le_refl _) | (with_reducible exact Below.size (by assumption)) | omega | (simp only [World.size_alloc, World.size_setCell, World.size_drew]; omega) | (simp; done) | (simp; omega)))))
      (fail)
    all_goals (go_wp2_with fail; go_meet)
    all_goals (refine ⟨_, _, _, rfl, rfl, rfl, ⟨?_, ?_, ?_, ?_, by omega, by omega, by omega, by omega, by omega, by omega⟩⟩)
    all_goals (repeat' (first | (with_reducible refine Blk.new _ _ _ _ ?_; simp; done) | (with_reducible refine Blk.alloc ?_ _) | (with_reducible refine Blk.drewN ?_ _) | (with_reducible refine Blk.drew ?_)))
    all_goals (repeat' (first | (with_reducible exact Below.refl _ _) | (with_reducible assumption) | (with_reducible refine Below.drewN ?_ _) | (with_reducible refine Below.drew ?_) | (with_reducible refine Below.alloc ?_ ?_ _) | (with_reducible refine Below.setCell ?_ ?_ _) | (with_reducible exact Nat.le_refl _) | (with_reducible exact Below.size (by assumption)) | omega | (simp only [World.size_alloc, World.size_setCell, World.size_drew]; omega) | (simp; done) | (simp; omega)))
  case rest =>
    obtain ⟨b5, b6, b7, rfl, rfl, rfl, hC⟩ := hcut
    have k5 := hC.x5.cell 12
    have f5 := hC.x5.free 12
    have k6 := hC.x6.cell 5
    have f6 := hC.x6.free 5
    have kb := (hC.below.cell (p := ⟨w.heap.size, 8, none⟩) hI2.box1.lt).trans (hI2.box1.cell 8)
    have f7 := hC.x7.free 8
    have k7 := hC.x7.cell 8
    have hne5 : ¬ b5 = w.heap.size := by have := hI2.box1.lt; have := hC.l5; omega
    have hne6 : ¬ b6 = w.heap.size := by have := hI2.box1.lt; have := hC.l6; omega
    have n56 := hC.n56
    have n57 := hC.n57
    have n67 := hC.n67
    simp only [List.getElem?_toArray, List.getElem?_cons_succ, List.getElem?_cons_zero] at k5 k6 kb k7
    go_upto_region 6 with (fail)
    have hX5 : Blk ((wc.setCell ⟨b5, 12, none⟩ (.int .i64 (wrap64 (m.acc + n)))).setCell ⟨b6, 5, none⟩ (.int .i64 (wrap64 (m.aseq + n)))) b5 69 #[.int .i64 m.kind, .int .i64 m.fro, .int .i64 m.to, .int .i64 m.seq, .int .i64 m.time, .int .i64 m.aseq, .int .i64 m.aend, .slice A m.prof.length c, .slice A' m.links.length c', .int .i64 m.min, .int .i64 m.speed, .int .i64 m.mode, .int .i64 (wrap64 (m.acc + n)), .bool m.whole] := ((hC.x5.set 12 _).far (by simpa using n56) _)
    have hX6 : Blk ((wc.setCell ⟨b5, 12, none⟩ (.int .i64 (wrap64 (m.acc + n)))).setCell ⟨b6, 5, none⟩ (.int .i64 (wrap64 (m.aseq + n)))) b6 69 #[.int .i64 m.kind, .int .i64 m.fro, .int .i64 m.to, .int .i64 m.seq, .int .i64 m.time, .int .i64 (wrap64 (m.aseq + n)), .int .i64 m.aend, .slice A m.prof.length c, .slice A' m.links.length c', .int .i64 m.min, .int .i64 m.speed, .int .i64 m.mode, .int .i64 m.acc, .bool m.whole] := ((hC.x6.far (by simpa using Ne.symm n56) _).set 5 _)
    have hX7 : Blk ((wc.setCell ⟨b5, 12, none⟩ (.int .i64 (wrap64 (m.acc + n)))).setCell ⟨b6, 5, none⟩ (.int .i64 (wrap64 (m.aseq + n)))) b7 69 #[.int .i64 m.kind, .int .i64 m.fro, .int .i64 m.to, .int .i64 m.seq, .int .i64 m.time, .int .i64 m.aseq, .int .i64 m.aend, .slice A m.prof.length c, .slice A' m.links.length c', .int .i64 m.min, .int .i64 m.speed, .int .i64 m.mode, .int .i64 m.acc, .bool m.whole] := ((hC.x7.far (by simpa using Ne.symm n57) _).far (by simpa using Ne.symm n67) _)
    have hb4 : Below w2.heap.size w2 ((wc.setCell ⟨b5, 12, none⟩ (.int .i64 (wrap64 (m.acc + n)))).setCell ⟨b6, 5, none⟩ (.int .i64 (wrap64 (m.aseq + n)))) := (hC.below.setCell (by have := hC.l5; simpa using this) _).setCell (by have := hC.l6; simpa using this) _
    have l5 := hC.l5
    have l6 := hC.l6
    have l7 := hC.l7
    generalize ((wc.setCell ⟨b5, 12, none⟩ (.int .i64 (wrap64 (m.acc + n)))).setCell ⟨b6, 5, none⟩ (.int .i64 (wrap64 (m.aseq + n)))) = w4 at hX5 hX6 hX7 hb4 ⊢
    have hI4 := hI2.step hb4
    have hz2 := hI2.box1.lt
    clear hC k5 f5 k6 f6 kb f7 k7
    have kb := hI4.box1.cell 8
    have f7 := hX7.free 8
    have k7 := hX7.cell 8
    simp only [List.getElem?_toArray, List.getElem?_cons_succ, List.getElem?_cons_zero] at kb k7
    have hz4 := hI4.box1.lt
    have hz7 := hX7.lt
    have hne7 : ¬ b7 = w.heap.size := by omega
    have hown0 : (w4.alloc (.cells #[] 77)).ownsRow w4.heap.size 77 2 (.slice (some ⟨w4.heap.size, 0, none⟩) 0 0) 0 [] := World.ownsRow_lit (e := 77) (size := 2) w4 #[] 0 (Nat.le_refl _) (by simp) rfl
    have hR0 : RdS cLnk (w4.alloc (.cells #[] 77)) w4.heap.size A' m.links := hI4.m2.keep fun p hp => World.cell?_alloc_lt _ _ p hp
    have hlm : m.links.length ≤ 24 := (valid_parts H1.out).2.1
    have h1c : ∀ u ∈ m.links.flatMap Lnk.cells, u.oneCell' = true := by
      intro u hu
      rw [List.mem_flatMap] at hu
      obtain ⟨x, _, hx⟩ := hu
      simp [Lnk.cells] at hx
      rcases hx with rfl | rfl <;> rfl
    have hb40 : Below w4.heap.size w4 (w4.alloc (.cells #[] 77)) := (Below.refl _ _).alloc (Nat.le_refl _) _
    have hm63 : 0 + m.links.length ≤ maxLen := by unfold maxLen; omega
    have hby : (0 + m.links.length) * 16 ≤ 140737488355328 := by omega
    have hsz40 : w4.heap.size ≤ (w4.alloc (.cells #[] 77)).heap.size := by simp
    have hoks := lnk_oks hI4.m2
    have HOKS := Lib.hid hoks
    have H1C := Lib.hid h1c
    clear hoks h1c
    go_upto_region 7 with (first
      | (at_builtin; (refine wpList_append_rd (sz := 2) (cells := Lnk.cells) (ok := Lnk.ok) (hn := fun _ => rfl) rfl (.tmp 39) (.tmp 42) _ (by rfl) w4.heap.size 77 i0 _ 16 Try.underlying63 hi0 hz0 hs0 hby0 rfl (by omega) _ 0 [] (by rfl) hown0 w4.heap.size A' c' m.links (by rfl) hR0 H1C.out hm63 hby hsz40 ?_); intro v1 w5 hown1 hg1; have hb5 : Below w4.heap.size w4 w5 := hb40.grown hg1 hsz40 (fun k hk => (hown0.lt k hk).1); have hz5 := hb5.size; have hown5 := hown1.alloc (.cells #[.int .i64 n, .int .i64 n] 77); have hm64 : 0 + m.links.length + 1 ≤ maxLen := (by unfold maxLen; omega); have hby2 : (0 + m.links.length + 1) * 16 ≤ 140737488355328 := (by omega); have hsz5 : w4.heap.size ≤ (w5.alloc (.cells #[.int .i64 n, .int .i64 n] 77)).heap.size := (by simp; omega))
      | (at_builtin; (refine wpList_append_own _ (by rfl) (.tmp 43) (.tmp 47) _ (by rfl) w4.heap.size 77 i0 _ 2 16 Try.underlying63 hi0 hz0 hs0 hby0 rfl (by omega) v1 (0 + m.links.length) _ (by rfl) hown5 ⟨w5.heap.size, 0, none⟩ 1 1 (Lnk.cells (n, n)) (by rfl) rfl (news_two _ _ _ _) (one_two _ _) hm64 hby2 hsz5 ?_); intro v2 w6 hown2 hg2 _; have hb6 : Below w4.heap.size w4 w6 := (hb5.alloc hz5 _).grown hg2 hsz5 (fun k hk => (hown5.lt k hk).1); have f8 := (hb6.frozen (p := ⟨b7, 8, none⟩) hz7).trans f7; have k8 := (hb6.cell (p := ⟨b7, 8, none⟩) hz7).trans k7; obtain ⟨A2, c2, hv2, hrd2⟩ := rdS_own (n := 2) (cells := Lnk.cells) (ok := Lnk.ok) (hn := fun _ => rfl) (own_links hown2) (oks_snoc HOKS.out hni); have hv3 : v2 = .slice A2 (m.links.length + 1) c2 := (by rw [hv2]; simp); clear hv2; subst hv3; have HOWN := Lib.hid (own_links hown2); clear hrd2; have hz64 := hb6.size; have hk6 := (hb6.cell (p := ⟨w.heap.size, 0, none⟩) hz4).trans (hI4.box1.cell 0)))
    have hb7 : b7 < w4.heap.size := hz7
    have hb27 : Below w2.heap.size w2 (w6.setCell ⟨b7, 8, none⟩ (.slice A2 (m.links.length + 1) c2)) := (bel_then hb4 hb4.size hb6).setCell l7 _
    have hrc : RdS cLnk (w6.setCell ⟨b7, 8, none⟩ (.slice A2 (m.links.length + 1) c2)) (w6.setCell ⟨b7, 8, none⟩ (.slice A2 (m.links.length + 1) c2)).heap.size A2 (m.links ++ [(n, n)]) := by
      obtain ⟨A3, c3, hv3, hr3⟩ := rdS_own (n := 2) (cells := Lnk.cells) (ok := Lnk.ok) (hn := fun _ => rfl) (own_set HOWN.out b7 8 (.slice A2 (m.links.length + 1) c2) hb7) (oks_snoc HOKS.out hni)
      injection hv3 with e1 e2 e3
      subst e1
      exact hr3
    have hJ : CutJ w m n A c A' c' A2 c2 b5 b6 b7 (w6.setCell ⟨b7, 8, none⟩ (.slice A2 (m.links.length + 1) c2)) :=
      ⟨((hX5.now hb6).far (by simpa using n57) _), ((hX6.now hb6).far (by simpa using n67) _), ((hX7.now hb6).set 8 _), hI2.step hb27, hrc⟩
    have HJ := Lib.hid hJ
    clear hJ hrc hX5 hX6 hX7 hI4 hb4 hb6 f8 k8 f7 k7 kb hown0 hR0 hb40 hb5 hown1 hg1 hown2 hg2 hown5 HOWN hk6
    generalize (w6.setCell ⟨b7, 8, none⟩ (.slice A2 (m.links.length + 1) c2)) = w7 at HJ hb27 ⊢
    have hJ := HJ.out
    clear HJ hb27
    have hcA := fun h : (m.kind == 1) = false => cutA_valid om hni (by simpa using hn) H1.out h
    have hcB := fun h : carB m.kind = false => cutB_valid (n := n) om hni (by simpa using hn) H1.out h
    have hcC := fun h : carB m.kind = false => cutC_valid (n := n) h
    have HSA := Lib.hid (cutA_ne om hni (by simpa using hn))
    have HSB := Lib.hid (cutB_ne om hni (by simpa using hn))
    have HSC := Lib.hid (cutC_ne (m := m) (n := n))
    have eC : (cutC m n).links.length = m.links.length + 1 := by simp [cutC]
    have EC := Lib.hid eC
    clear eC
    have hlC : (cutC m n).links.length ≤ 9223372036854775807 := by show (m.links ++ [(n, n)]).length ≤ _; simp; omega
    have hz7 := hJ.inv.box1.lt
    have hkk : ((m.kind == 1) = true ∧ (m.kind != 1) = false ∧ (m.kind == 2) = false ∧ (m.kind == 3) = false ∧ carB m.kind = false) ∨ ((m.kind == 1) = false ∧ (m.kind != 1) = true ∧ (m.kind == 2) = true ∧ carB m.kind = true) ∨ ((m.kind == 1) = false ∧ (m.kind != 1) = true ∧ (m.kind == 2) = false ∧ (m.kind == 3) = true ∧ carB m.kind = true) ∨ ((m.kind == 1) = false ∧ (m.kind != 1) = true ∧ (m.kind == 2) = false ∧ (m.kind == 3) = false ∧ carB m.kind = false) := by
      by_cases k1 : m.kind = 1
      · left; simp [k1, carB]
      · by_cases k2 : m.kind = 2
        · right; left; simp [k2, carB]
        · by_cases k3 : m.kind = 3
          · right; right; left; simp [k3, carB]
          · right; right; right; simp [k1, k2, k3, carB]
    go_cut [8] from 51 to 58 (fun s w' => s = .bool (carB m.kind) ∧ w' = w7)
    case first =>
      clear hcA hcB hcC
      have z0 := hJ.inv.box1.cell 0
      have z1 := hJ.inv.box1.cell 1
      have z2 := hJ.inv.box1.cell 2
      have z3 := hJ.inv.box1.cell 3
      have z4 := hJ.inv.box1.cell 4
      have z5 := hJ.inv.box1.cell 5
      have z6 := hJ.inv.box1.cell 6
      have z7 := hJ.inv.box1.cell 7
      have z8 := hJ.inv.box1.cell 8
      have z9 := hJ.inv.box1.cell 9
      have z10 := hJ.inv.box1.cell 10
      have z11 := hJ.inv.box1.cell 11
      have z12 := hJ.inv.box1.cell 12
      have z13 := hJ.inv.box1.cell 13
      simp only [List.getElem?_toArray, List.getElem?_cons_succ, List.getElem?_cons_zero] at z0 z1 z2 z3 z4 z5 z6 z7 z8 z9 z10 z11 z12 z13
      rcases hkk with ⟨k1, k2, k3, k4, k5⟩ | ⟨k1, k2, k3, k5⟩ | ⟨k1, k2, k3, k4, k5⟩ | ⟨k1, k2, k3, k4, k5⟩
      all_goals
        have K5 := Lib.hid k5
        clear k5
        go_wp2_with fail
        go_meet
        exact ⟨by rw [K5.out], rfl⟩
    case rest =>
      obtain ⟨rfl, rfl⟩ := hcut
      go_upto_region 8 with (fail)
      go_cut [8, 81] from 59 to 80 (fun s8 s w' => s8 = .bool (carB m.kind) ∧ s = .bool false ∧ CutJ w m n A c A' c' A2 c2 b5 b6 b7 w')
      case first =>
        cases k5 : carB m.kind
        · have HVB := Lib.hid (hcB k5)
          have HVC := Lib.hid (hcC k5)
          have k1 : (m.kind == 1) = true ∨ (m.kind == 1) = false := by cases m.kind == 1 <;> simp
          have hva : (validB (cutA m n) = true ∧ (m.kind != 1) = false) ∨ validB (cutA m n) = false := by
            rcases k1 with k1 | k1
            · cases hv : validB (cutA m n)
              · exact .inr rfl
              · exact .inl ⟨rfl, by simpa using k1⟩
            · exact .inr (hcA k1)
          have K5 := Lib.hid k5
          clear hcA hcB hcC k5 k1 hkk
          rcases hva with ⟨hva, k1⟩ | hva
          all_goals
            have HVA := Lib.hid hva
            clear hva
            as_aux_lemma =>
              have y0 := hJ.x5.cell 0
              have y1 := hJ.x5.cell 1
              have y2 := hJ.x5.cell 2
              have y3 := hJ.x5.cell 3
              have y4 := hJ.x5.cell 4
              have y5 := hJ.x5.cell 5
              have y6 := hJ.x5.cell 6
              have y7 := hJ.x5.cell 7
              have y8 := hJ.x5.cell 8
              have y9 := hJ.x5.cell 9
              have y10 := hJ.x5.cell 10
              have y11 := hJ.x5.cell 11
              have y12 := hJ.x5.cell 12
              have y13 := hJ.x5.cell 13
              simp only [List.getElem?_toArray, List.getElem?_cons_succ, List.getElem?_cons_zero] at y0 y1 y2 y3 y4 y5 y6 y7 y8 y9 y10 y11 y12 y13
              have z0 := hJ.inv.box1.cell 0
              have z1 := hJ.inv.box1.cell 1
              have z2 := hJ.inv.box1.cell 2
              have z3 := hJ.inv.box1.cell 3
              have z4 := hJ.inv.box1.cell 4
              have z5 := hJ.inv.box1.cell 5
              have z6 := hJ.inv.box1.cell 6
              have z7 := hJ.inv.box1.cell 7
              have z8 := hJ.inv.box1.cell 8
              have z9 := hJ.inv.box1.cell 9
              have z10 := hJ.inv.box1.cell 10
              have z11 := hJ.inv.box1.cell 11
              have z12 := hJ.inv.box1.cell 12
              have z13 := hJ.inv.box1.cell 13
              simp only [List.getElem?_toArray, List.getElem?_cons_succ, List.getElem?_cons_zero] at z0 z1 z2 z3 z4 z5 z6 z7 z8 z9 z10 z11 z12 z13
              go_wp2_with fail
              refine (valid_any (cutA m n) A c A' c' _ lm lm' hJ.inv.m1 hJ.inv.m2).mono ?_
              rw [HVA.out]
              rintro e wq ⟨rfl, hb⟩
              clear y0 y1 y2 y3 y4 y5 y6 y7 y8 y9 y10 y11 y12 y13 z0 z1 z2 z3 z4 z5 z6 z7 z8 z9 z10 z11 z12 z13
              replace hJ := hJ.step hb
              clear hb
              obtain ⟨wn, rfl⟩ : ∃ wn : World, wn = wq := ⟨_, rfl⟩
              have hz7 := hJ.inv.box1.lt
              have y0 := hJ.x6.cell 0
              have y1 := hJ.x6.cell 1
              have y2 := hJ.x6.cell 2
              have y3 := hJ.x6.cell 3
              have y4 := hJ.x6.cell 4
              have y5 := hJ.x6.cell 5
              have y6 := hJ.x6.cell 6
              have y7 := hJ.x6.cell 7
              have y8 := hJ.x6.cell 8
              have y9 := hJ.x6.cell 9
              have y10 := hJ.x6.cell 10
              have y11 := hJ.x6.cell 11
              have y12 := hJ.x6.cell 12
              have y13 := hJ.x6.cell 13
              simp only [List.getElem?_toArray, List.getElem?_cons_succ, List.getElem?_cons_zero] at y0 y1 y2 y3 y4 y5 y6 y7 y8 y9 y10 y11 y12 y13
              have z0 := hJ.inv.box1.cell 0
              have z1 := hJ.inv.box1.cell 1
              have z2 := hJ.inv.box1.cell 2
              have z3 := hJ.inv.box1.cell 3
              have z4 := hJ.inv.box1.cell 4
              have z5 := hJ.inv.box1.cell 5
              have z6 := hJ.inv.box1.cell 6
              have z7 := hJ.inv.box1.cell 7
              have z8 := hJ.inv.box1.cell 8
              have z9 := hJ.inv.box1.cell 9
              have z10 := hJ.inv.box1.cell 10
              have z11 := hJ.inv.box1.cell 11
              have z12 := hJ.inv.box1.cell 12
              have z13 := hJ.inv.box1.cell 13
              simp only [List.getElem?_toArray, List.getElem?_cons_succ, List.getElem?_cons_zero] at z0 z1 z2 z3 z4 z5 z6 z7 z8 z9 z10 z11 z12 z13
              go_wp2_with fail
              refine (valid_any (cutB m n) A c A' c' _ lm lm' hJ.inv.m1 hJ.inv.m2).mono ?_
              rw [HVB.out]
              rintro e wq ⟨rfl, hb⟩
              clear y0 y1 y2 y3 y4 y5 y6 y7 y8 y9 y10 y11 y12 y13 z0 z1 z2 z3 z4 z5 z6 z7 z8 z9 z10 z11 z12 z13
              replace hJ := hJ.step hb
              clear hb
              obtain ⟨wn, rfl⟩ : ∃ wn : World, wn = wq := ⟨_, rfl⟩
              have hz7 := hJ.inv.box1.lt
              have y0 := hJ.x7.cell 0
              have y1 := hJ.x7.cell 1
              have y2 := hJ.x7.cell 2
              have y3 := hJ.x7.cell 3
              have y4 := hJ.x7.cell 4
              have y5 := hJ.x7.cell 5
              have y6 := hJ.x7.cell 6
              have y7 := hJ.x7.cell 7
              have y8 := hJ.x7.cell 8
              have y9 := hJ.x7.cell 9
              have y10 := hJ.x7.cell 10
              have y11 := hJ.x7.cell 11
              have y12 := hJ.x7.cell 12
              have y13 := hJ.x7.cell 13
              simp only [List.getElem?_toArray, List.getElem?_cons_succ, List.getElem?_cons_zero] at y0 y1 y2 y3 y4 y5 y6 y7 y8 y9 y10 y11 y12 y13
              have z0 := hJ.inv.box1.cell 0
              have z1 := hJ.inv.box1.cell 1
              have z2 := hJ.inv.box1.cell 2
              have z3 := hJ.inv.box1.cell 3
              have z4 := hJ.inv.box1.cell 4
              have z5 := hJ.inv.box1.cell 5
              have z6 := hJ.inv.box1.cell 6
              have z7 := hJ.inv.box1.cell 7
              have z8 := hJ.inv.box1.cell 8
              have z9 := hJ.inv.box1.cell 9
              have z10 := hJ.inv.box1.cell 10
              have z11 := hJ.inv.box1.cell 11
              have z12 := hJ.inv.box1.cell 12
              have z13 := hJ.inv.box1.cell 13
              simp only [List.getElem?_toArray, List.getElem?_cons_succ, List.getElem?_cons_zero] at z0 z1 z2 z3 z4 z5 z6 z7 z8 z9 z10 z11 z12 z13
              go_wp2_with fail
              have q := valid_any (cutC m n) A c A2 c2 _ lm hlC hJ.inv.m1 hJ.rc
              rw [EC.out] at q
              refine q.mono ?_
              clear q
              rw [HVC.out]
              rintro e wq ⟨rfl, hb⟩
              clear y0 y1 y2 y3 y4 y5 y6 y7 y8 y9 y10 y11 y12 y13 z0 z1 z2 z3 z4 z5 z6 z7 z8 z9 z10 z11 z12 z13
              replace hJ := hJ.step hb
              clear hb
              obtain ⟨wn, rfl⟩ : ∃ wn : World, wn = wq := ⟨_, rfl⟩
              have hz7 := hJ.inv.box1.lt
              have z0 := hJ.inv.box1.cell 0
              have z1 := hJ.inv.box1.cell 1
              have z2 := hJ.inv.box1.cell 2
              have z3 := hJ.inv.box1.cell 3
              have z4 := hJ.inv.box1.cell 4
              have z5 := hJ.inv.box1.cell 5
              have z6 := hJ.inv.box1.cell 6
              have z7 := hJ.inv.box1.cell 7
              have z8 := hJ.inv.box1.cell 8
              have z9 := hJ.inv.box1.cell 9
              have z10 := hJ.inv.box1.cell 10
              have z11 := hJ.inv.box1.cell 11
              have z12 := hJ.inv.box1.cell 12
              have z13 := hJ.inv.box1.cell 13
              simp only [List.getElem?_toArray, List.getElem?_cons_succ, List.getElem?_cons_zero] at z0 z1 z2 z3 z4 z5 z6 z7 z8 z9 z10 z11 z12 z13
              go_wp2_with fail
              go_meet
              exact ⟨(by first | rfl | rw [K5.out]), (by simp), hJ⟩
        · have HVA := Lib.hid (hcA (car_not_rep k5))
          have K5 := Lib.hid k5
          clear hcA hcB hcC k5 hkk
          cases hvb : validB (cutB m n) <;> cases hvc : validB (cutC m n)
          all_goals
            have HVB := Lib.hid hvb
            have HVC := Lib.hid hvc
            clear hvb hvc
            as_aux_lemma =>
              have y0 := hJ.x5.cell 0
              have y1 := hJ.x5.cell 1
              have y2 := hJ.x5.cell 2
              have y3 := hJ.x5.cell 3
              have y4 := hJ.x5.cell 4
              have y5 := hJ.x5.cell 5
              have y6 := hJ.x5.cell 6
              have y7 := hJ.x5.cell 7
              have y8 := hJ.x5.cell 8
              have y9 := hJ.x5.cell 9
              have y10 := hJ.x5.cell 10
              have y11 := hJ.x5.cell 11
              have y12 := hJ.x5.cell 12
              have y13 := hJ.x5.cell 13
              simp only [List.getElem?_toArray, List.getElem?_cons_succ, List.getElem?_cons_zero] at y0 y1 y2 y3 y4 y5 y6 y7 y8 y9 y10 y11 y12 y13
              have z0 := hJ.inv.box1.cell 0
              have z1 := hJ.inv.box1.cell 1
              have z2 := hJ.inv.box1.cell 2
              have z3 := hJ.inv.box1.cell 3
              have z4 := hJ.inv.box1.cell 4
              have z5 := hJ.inv.box1.cell 5
              have z6 := hJ.inv.box1.cell 6
              have z7 := hJ.inv.box1.cell 7
              have z8 := hJ.inv.box1.cell 8
              have z9 := hJ.inv.box1.cell 9
              have z10 := hJ.inv.box1.cell 10
              have z11 := hJ.inv.box1.cell 11
              have z12 := hJ.inv.box1.cell 12
              have z13 := hJ.inv.box1.cell 13
              simp only [List.getElem?_toArray, List.getElem?_cons_succ, List.getElem?_cons_zero] at z0 z1 z2 z3 z4 z5 z6 z7 z8 z9 z10 z11 z12 z13
              go_wp2_with fail
              refine (valid_any (cutA m n) A c A' c' _ lm lm' hJ.inv.m1 hJ.inv.m2).mono ?_
              rw [HVA.out]
              rintro e wq ⟨rfl, hb⟩
              clear y0 y1 y2 y3 y4 y5 y6 y7 y8 y9 y10 y11 y12 y13 z0 z1 z2 z3 z4 z5 z6 z7 z8 z9 z10 z11 z12 z13
              replace hJ := hJ.step hb
              clear hb
              obtain ⟨wn, rfl⟩ : ∃ wn : World, wn = wq := ⟨_, rfl⟩
              have hz7 := hJ.inv.box1.lt
              have y0 := hJ.x6.cell 0
              have y1 := hJ.x6.cell 1
              have y2 := hJ.x6.cell 2
              have y3 := hJ.x6.cell 3
              have y4 := hJ.x6.cell 4
              have y5 := hJ.x6.cell 5
              have y6 := hJ.x6.cell 6
              have y7 := hJ.x6.cell 7
              have y8 := hJ.x6.cell 8
              have y9 := hJ.x6.cell 9
              have y10 := hJ.x6.cell 10
              have y11 := hJ.x6.cell 11
              have y12 := hJ.x6.cell 12
              have y13 := hJ.x6.cell 13
              simp only [List.getElem?_toArray, List.getElem?_cons_succ, List.getElem?_cons_zero] at y0 y1 y2 y3 y4 y5 y6 y7 y8 y9 y10 y11 y12 y13
              have z0 := hJ.inv.box1.cell 0
              have z1 := hJ.inv.box1.cell 1
              have z2 := hJ.inv.box1.cell 2
              have z3 := hJ.inv.box1.cell 3
              have z4 := hJ.inv.box1.cell 4
              have z5 := hJ.inv.box1.cell 5
              have z6 := hJ.inv.box1.cell 6
              have z7 := hJ.inv.box1.cell 7
              have z8 := hJ.inv.box1.cell 8
              have z9 := hJ.inv.box1.cell 9
              have z10 := hJ.inv.box1.cell 10
              have z11 := hJ.inv.box1.cell 11
              have z12 := hJ.inv.box1.cell 12
              have z13 := hJ.inv.box1.cell 13
              simp only [List.getElem?_toArray, List.getElem?_cons_succ, List.getElem?_cons_zero] at z0 z1 z2 z3 z4 z5 z6 z7 z8 z9 z10 z11 z12 z13
              go_wp2_with fail
              refine (valid_any (cutB m n) A c A' c' _ lm lm' hJ.inv.m1 hJ.inv.m2).mono ?_
              rw [HVB.out]
              rintro e wq ⟨rfl, hb⟩
              clear y0 y1 y2 y3 y4 y5 y6 y7 y8 y9 y10 y11 y12 y13 z0 z1 z2 z3 z4 z5 z6 z7 z8 z9 z10 z11 z12 z13
              replace hJ := hJ.step hb
              clear hb
              obtain ⟨wn, rfl⟩ : ∃ wn : World, wn = wq := ⟨_, rfl⟩
              have hz7 := hJ.inv.box1.lt
              have y0 := hJ.x7.cell 0
              have y1 := hJ.x7.cell 1
              have y2 := hJ.x7.cell 2
              have y3 := hJ.x7.cell 3
              have y4 := hJ.x7.cell 4
              have y5 := hJ.x7.cell 5
              have y6 := hJ.x7.cell 6
              have y7 := hJ.x7.cell 7
              have y8 := hJ.x7.cell 8
              have y9 := hJ.x7.cell 9
              have y10 := hJ.x7.cell 10
              have y11 := hJ.x7.cell 11
              have y12 := hJ.x7.cell 12
              have y13 := hJ.x7.cell 13
              simp only [List.getElem?_toArray, List.getElem?_cons_succ, List.getElem?_cons_zero] at y0 y1 y2 y3 y4 y5 y6 y7 y8 y9 y10 y11 y12 y13
              have z0 := hJ.inv.box1.cell 0
              have z1 := hJ.inv.box1.cell 1
              have z2 := hJ.inv.box1.cell 2
              have z3 := hJ.inv.box1.cell 3
              have z4 := hJ.inv.box1.cell 4
              have z5 := hJ.inv.box1.cell 5
              have z6 := hJ.inv.box1.cell 6
              have z7 := hJ.inv.box1.cell 7
              have z8 := hJ.inv.box1.cell 8
              have z9 := hJ.inv.box1.cell 9
              have z10 := hJ.inv.box1.cell 10
              have z11 := hJ.inv.box1.cell 11
              have z12 := hJ.inv.box1.cell 12
              have z13 := hJ.inv.box1.cell 13
              simp only [List.getElem?_toArray, List.getElem?_cons_succ, List.getElem?_cons_zero] at z0 z1 z2 z3 z4 z5 z6 z7 z8 z9 z10 z11 z12 z13
              go_wp2_with fail
              have q := valid_any (cutC m n) A c A2 c2 _ lm hlC hJ.inv.m1 hJ.rc
              rw [EC.out] at q
              refine q.mono ?_
              clear q
              rw [HVC.out]
              rintro e wq ⟨rfl, hb⟩
              clear y0 y1 y2 y3 y4 y5 y6 y7 y8 y9 y10 y11 y12 y13 z0 z1 z2 z3 z4 z5 z6 z7 z8 z9 z10 z11 z12 z13
              replace hJ := hJ.step hb
              clear hb
              obtain ⟨wn, rfl⟩ : ∃ wn : World, wn = wq := ⟨_, rfl⟩
              have hz7 := hJ.inv.box1.lt
              have z0 := hJ.inv.box1.cell 0
              have z1 := hJ.inv.box1.cell 1
              have z2 := hJ.inv.box1.cell 2
              have z3 := hJ.inv.box1.cell 3
              have z4 := hJ.inv.box1.cell 4
              have z5 := hJ.inv.box1.cell 5
              have z6 := hJ.inv.box1.cell 6
              have z7 := hJ.inv.box1.cell 7
              have z8 := hJ.inv.box1.cell 8
              have z9 := hJ.inv.box1.cell 9
              have z10 := hJ.inv.box1.cell 10
              have z11 := hJ.inv.box1.cell 11
              have z12 := hJ.inv.box1.cell 12
              have z13 := hJ.inv.box1.cell 13
              simp only [List.getElem?_toArray, List.getElem?_cons_succ, List.getElem?_cons_zero] at z0 z1 z2 z3 z4 z5 z6 z7 z8 z9 z10 z11 z12 z13
              go_wp2_with fail
              go_meet
              exact ⟨(by first | rfl | rw [K5.out]), (by simp), hJ⟩
      case rest => as_aux_lemma =>
        obtain ⟨rfl, rfl, hJ7⟩ := hcut
        clear hJ hcA hcB hcC hkk
        have hJ := hJ7
        clear hJ7
        have hz7 := hJ.inv.box1.lt
        have y0 := hJ.x5.cell 0
        have y1 := hJ.x5.cell 1
        have y2 := hJ.x5.cell 2
        have y3 := hJ.x5.cell 3
        have y4 := hJ.x5.cell 4
        have y5 := hJ.x5.cell 5
        have y6 := hJ.x5.cell 6
        have y7 := hJ.x5.cell 7
        have y8 := hJ.x5.cell 8
        have y9 := hJ.x5.cell 9
        have y10 := hJ.x5.cell 10
        have y11 := hJ.x5.cell 11
        have y12 := hJ.x5.cell 12
        have y13 := hJ.x5.cell 13
        simp only [List.getElem?_toArray, List.getElem?_cons_succ, List.getElem?_cons_zero] at y0 y1 y2 y3 y4 y5 y6 y7 y8 y9 y10 y11 y12 y13
        have z0 := hJ.inv.box1.cell 0
        have z1 := hJ.inv.box1.cell 1
        have z2 := hJ.inv.box1.cell 2
        have z3 := hJ.inv.box1.cell 3
        have z4 := hJ.inv.box1.cell 4
        have z5 := hJ.inv.box1.cell 5
        have z6 := hJ.inv.box1.cell 6
        have z7 := hJ.inv.box1.cell 7
        have z8 := hJ.inv.box1.cell 8
        have z9 := hJ.inv.box1.cell 9
        have z10 := hJ.inv.box1.cell 10
        have z11 := hJ.inv.box1.cell 11
        have z12 := hJ.inv.box1.cell 12
        have z13 := hJ.inv.box1.cell 13
        simp only [List.getElem?_toArray, List.getElem?_cons_succ, List.getElem?_cons_zero] at z0 z1 z2 z3 z4 z5 z6 z7 z8 z9 z10 z11 z12 z13
        go_wp2_with fail
        refine (same_msg (cutA m n) m A c A' c' A c A' c' _ lm lm' hJ.inv.m1 hJ.inv.m2 lm lm' hJ.inv.m1 hJ.inv.m2).mono ?_
        rw [HSA.out]
        rintro e wq ⟨rfl, hb⟩
        clear y0 y1 y2 y3 y4 y5 y6 y7 y8 y9 y10 y11 y12 y13 z0 z1 z2 z3 z4 z5 z6 z7 z8 z9 z10 z11 z12 z13
        replace hJ := hJ.step hb
        clear hb
        obtain ⟨wn, rfl⟩ : ∃ wn : World, wn = wq := ⟨_, rfl⟩
        have hz7 := hJ.inv.box1.lt
        have y0 := hJ.x6.cell 0
        have y1 := hJ.x6.cell 1
        have y2 := hJ.x6.cell 2
        have y3 := hJ.x6.cell 3
        have y4 := hJ.x6.cell 4
        have y5 := hJ.x6.cell 5
        have y6 := hJ.x6.cell 6
        have y7 := hJ.x6.cell 7
        have y8 := hJ.x6.cell 8
        have y9 := hJ.x6.cell 9
        have y10 := hJ.x6.cell 10
        have y11 := hJ.x6.cell 11
        have y12 := hJ.x6.cell 12
        have y13 := hJ.x6.cell 13
        simp only [List.getElem?_toArray, List.getElem?_cons_succ, List.getElem?_cons_zero] at y0 y1 y2 y3 y4 y5 y6 y7 y8 y9 y10 y11 y12 y13
        have z0 := hJ.inv.box1.cell 0
        have z1 := hJ.inv.box1.cell 1
        have z2 := hJ.inv.box1.cell 2
        have z3 := hJ.inv.box1.cell 3
        have z4 := hJ.inv.box1.cell 4
        have z5 := hJ.inv.box1.cell 5
        have z6 := hJ.inv.box1.cell 6
        have z7 := hJ.inv.box1.cell 7
        have z8 := hJ.inv.box1.cell 8
        have z9 := hJ.inv.box1.cell 9
        have z10 := hJ.inv.box1.cell 10
        have z11 := hJ.inv.box1.cell 11
        have z12 := hJ.inv.box1.cell 12
        have z13 := hJ.inv.box1.cell 13
        simp only [List.getElem?_toArray, List.getElem?_cons_succ, List.getElem?_cons_zero] at z0 z1 z2 z3 z4 z5 z6 z7 z8 z9 z10 z11 z12 z13
        go_wp2_with fail
        refine (same_msg (cutB m n) m A c A' c' A c A' c' _ lm lm' hJ.inv.m1 hJ.inv.m2 lm lm' hJ.inv.m1 hJ.inv.m2).mono ?_
        rw [HSB.out]
        rintro e wq ⟨rfl, hb⟩
        clear y0 y1 y2 y3 y4 y5 y6 y7 y8 y9 y10 y11 y12 y13 z0 z1 z2 z3 z4 z5 z6 z7 z8 z9 z10 z11 z12 z13
        replace hJ := hJ.step hb
        clear hb
        obtain ⟨wn, rfl⟩ : ∃ wn : World, wn = wq := ⟨_, rfl⟩
        have hz7 := hJ.inv.box1.lt
        have y0 := hJ.x7.cell 0
        have y1 := hJ.x7.cell 1
        have y2 := hJ.x7.cell 2
        have y3 := hJ.x7.cell 3
        have y4 := hJ.x7.cell 4
        have y5 := hJ.x7.cell 5
        have y6 := hJ.x7.cell 6
        have y7 := hJ.x7.cell 7
        have y8 := hJ.x7.cell 8
        have y9 := hJ.x7.cell 9
        have y10 := hJ.x7.cell 10
        have y11 := hJ.x7.cell 11
        have y12 := hJ.x7.cell 12
        have y13 := hJ.x7.cell 13
        simp only [List.getElem?_toArray, List.getElem?_cons_succ, List.getElem?_cons_zero] at y0 y1 y2 y3 y4 y5 y6 y7 y8 y9 y10 y11 y12 y13
        have z0 := hJ.inv.box1.cell 0
        have z1 := hJ.inv.box1.cell 1
        have z2 := hJ.inv.box1.cell 2
        have z3 := hJ.inv.box1.cell 3
        have z4 := hJ.inv.box1.cell 4
        have z5 := hJ.inv.box1.cell 5
        have z6 := hJ.inv.box1.cell 6
        have z7 := hJ.inv.box1.cell 7
        have z8 := hJ.inv.box1.cell 8
        have z9 := hJ.inv.box1.cell 9
        have z10 := hJ.inv.box1.cell 10
        have z11 := hJ.inv.box1.cell 11
        have z12 := hJ.inv.box1.cell 12
        have z13 := hJ.inv.box1.cell 13
        simp only [List.getElem?_toArray, List.getElem?_cons_succ, List.getElem?_cons_zero] at z0 z1 z2 z3 z4 z5 z6 z7 z8 z9 z10 z11 z12 z13
        go_wp2_with fail
        have q := same_msg (cutC m n) m A c A2 c2 A c A' c' _ lm hlC hJ.inv.m1 hJ.rc lm lm' hJ.inv.m1 hJ.inv.m2
        rw [EC.out] at q
        refine q.mono ?_
        clear q
        rw [HSC.out]
        rintro e wq ⟨rfl, hb⟩
        clear y0 y1 y2 y3 y4 y5 y6 y7 y8 y9 y10 y11 y12 y13 z0 z1 z2 z3 z4 z5 z6 z7 z8 z9 z10 z11 z12 z13
        replace hJ := hJ.step hb
        clear hb
        obtain ⟨wn, rfl⟩ : ∃ wn : World, wn = wq := ⟨_, rfl⟩
        have hz7 := hJ.inv.box1.lt
        go_wp2_with fail
        refine (alive37 _).mono ?_
        rintro e w9 ⟨rfl, hb⟩
        go_wp2_with fail
        go_ret
        exact ⟨by simp, (hJ.inv.step hb).below⟩
theorem messageCuts_walk (m : Msg) (A : Option Addr) (c : Nat) (A' : Option Addr) (c' : Nat) (n : Int) (w : World) (om : m.Ok) (hm : RdS cSeg w w.heap.size A m.prof) (hm' : RdS cLnk w w.heap.size A' m.links) (hni : I64n n) : Calls Try.prog 19 #[.agg #[.int .i64 m.kind, .int .i64 m.fro, .int .i64 m.to, .int .i64 m.seq, .int .i64 m.time, .int .i64 m.aseq, .int .i64 m.aend, .slice A m.prof.length c, .slice A' m.links.length c', .int .i64 m.min, .int .i64 m.speed, .int .i64 m.mode, .int .i64 m.acc, .bool m.whole], .int .i64 n] w fun e w' => e = .returned (.bool true) ∧ Below w.heap.size w w' := by
  cases h0 : fewB m
  · exact messageCuts_no0 m A c A' c' n w om hm hm' h0
  · cases h1 : validB m
    · exact messageCuts_no1 m A c A' c' n w om hm hm' h0 h1
    · cases hn : n == 0
      · exact messageCuts_yes m A c A' c' n w om hm hm' h0 h1 hn hni
      · exact messageCuts_no2 m A c A' c' n w om hm hm' h0 h1 hn
end Go.Proofs.Ytlpkkcodmoklaaa
