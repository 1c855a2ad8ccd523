/- What the walk of Print carries from round to round. -/
import Derived.Test.YtopoknocfoiiaaaGreatDoorPlRowB
namespace Go.Proofs.YtopoknocfoiiaaaGreatDoor
set_option linter.unusedVariables false
set_option linter.unusedSimpArgs false
open Go.RowKit
attribute [local go_sem] bs_size bs_get bs_append bs_extract bs_toList
attribute [-go_sem] run_equalIn_agg
/-- The layout's box, and the lines so far. -/
def Ln (w w' : World) (v : LV) (s : Value) (lns : Lns) : Prop := Bx w w' v ∧ OwnR (cL cS) w' w.heap.size 22 s lns w'.heap.size
section
variable {w w1 w2 : World} {v : LV} {s : Value} {lns : Lns}
theorem Ln.now (h : Ln w w1 v s lns) (hb : Below w1.heap.size w1 w2) : Ln w w2 v s lns := ⟨h.1.now hb, (h.2.now hb).raise hb.size (Nat.le_refl _)⟩
theorem Ln.alloc (h : Ln w w1 v s lns) (o : Obj) : Ln w (w1.alloc o) v s lns := h.now ((Below.refl _ _).alloc (Nat.le_refl _) o)
theorem Ln.bel (h : Ln w w1 v s lns) : Below w.heap.size w w1 := h.1.bel
theorem Ln.push {s' : Value} {y : List (List UInt8)} {B : Nat} (h : Ln w w1 v s lns) (hr : LvR w v) (h2 : OwnR (cL cS) w2 w.heap.size 22 s' (lns ++ [y]) B) (hf : Frm w.heap.size 22 w1 w2) : Ln w w2 v s' (lns ++ [y]) :=
  ⟨h.1.frm hr hf (by decide), h2.raise (by obtain ⟨_, _, _, h⟩ := h2; exact h) (Nat.le_refl _)⟩
end
theorem row_one {w : World} {g gl n base : Nat} {T T' : TypeId} {words : List (List UInt8)} (hg : Blk w g T' #[.slice (some ⟨gl, 0, none⟩) n n]) (hn : n = words.length) (h : Blk w gl T (words.map fun x => Value.string (bs x)).toArray) (hx : ∀ x ∈ words, x.length ≤ maxLen) (hT : T ≠ T') (hl : words.length ≤ maxLen) (hb : base ≤ g) :
    OwnR (cL cS) w base T' (.slice (some ⟨g, 0, none⟩) 1 1) [words] w.heap.size := by
  subst hn
  refine ⟨[.slice (some ⟨gl, 0, none⟩) words.length words.length], ⟨by simp [cL], Or.inr ⟨g, 1, _, rfl, hb, hg, Nat.le_refl _, by unfold maxLen; omega, by simp [cL], by simp [cL]⟩⟩, ⟨_, [], by simp, line_rd h hx hT hl, rfl⟩, Nat.le_refl _⟩
theorem infoStrsT : (Tryz.prog.info? 22).map (fun i => (i.zero, i.size, i.bytes)) = some (some (.slice none 0 0), 1, 24) := by kernel_rfl
theorem name_le {s : List UInt8} (h : nameB s = true) : s.length ≤ maxLen := Nat.le_trans (name_len h) (by unfold maxLen; omega)
theorem prt_bad {l : Lay} {c : Int} (h : chkL l = c) (h0 : c ≠ 0) : prtL l = ([], c) := by subst h; unfold prtL; rw [if_neg h0]
theorem prt_good {l : Lay} (h : chkL l = 0) : prtL l = joinF (linesL l) := by unfold prtL; rw [if_pos h]
theorem map_take {α β : Type} {l : List α} {k : Nat} (f : α → β) (h : k < l.length) : (l.take (k + 1)).map f = (l.take k).map f ++ [f l[k]] := by
  rw [List.take_succ_eq_append_getElem h, List.map_append]; rfl
/-- .. and a line of words that grows. -/
def Lw (w w' : World) (v : LV) (s : Value) (lns : Lns) (v' : Value) (words : List (List UInt8)) : Prop := ∃ B, Bx w w' v ∧ OwnR (cL cS) w' w.heap.size 22 s lns B ∧ OwnR cS w' B 9 v' words 0 ∧ w.heap.size ≤ B ∧ B ≤ w'.heap.size
section
variable {w w1 w2 : World} {v : LV} {s v' : Value} {lns : Lns} {words : List (List UInt8)}
theorem Lw.mk (h : Ln w w1 v s lns) (hb : Below w1.heap.size w1 w2) (h2 : OwnR cS w2 w1.heap.size 9 v' words 0) : Lw w w2 v s lns v' words :=
  ⟨w1.heap.size, h.1.now hb, h.2.now hb, h2, h.bel.size, hb.size⟩
theorem Lw.now (h : Lw w w1 v s lns v' words) (hb : Below w1.heap.size w1 w2) : Lw w w2 v s lns v' words := by
  obtain ⟨B, h1, h2, h3, h4, h5⟩ := h
  exact ⟨B, h1.now hb, h2.now hb, h3.now hb, h4, Nat.le_trans h5 hb.size⟩
theorem Lw.bx (h : Lw w w1 v s lns v' words) : Bx w w1 v := by obtain ⟨B, h1, _⟩ := h; exact h1
theorem Lw.close (h : Lw w w1 v s lns v' words) : Ln w w1 v s lns ∧ ∃ A cap, v' = .slice A words.length cap ∧ (cL cS).rd w1 (Sep w1 22 w1.heap.size) [v'] words := by
  obtain ⟨B, h1, h2, h3, h4, h5⟩ := h
  exact ⟨⟨h1, h2.raise h5 (Nat.le_refl _)⟩, h3.inner (by decide)⟩
theorem Lw.push {v2 : Value} {x : List UInt8} {B : Nat} (hB1 : Bx w w1 v) (hr : LvR w v) (h2 : OwnR (cL cS) w1 w.heap.size 22 s lns B) (hwB : w.heap.size ≤ B) (h3 : OwnR cS w2 B 9 v2 (words ++ [x]) 0) (hf : Frm B 9 w1 w2) (hBs : B ≤ w1.heap.size) : Lw w w2 v s lns v2 (words ++ [x]) := by
  have hb := hf.keeps hwB hB1.bel.size hB1.bel
  exact ⟨B, ⟨hb, hf.blk hB1.blk (by decide), hr.now hb⟩, h2.frm hf (by decide) (Nat.le_refl _), h3, hwB, Nat.le_trans hBs hf.size⟩
end
theorem rds_ints {w : World} {g : Nat} {T : TypeId} {ns : List Int} (h : Blk w g T (ns.map (Value.int .i64)).toArray) (hn : ∀ n ∈ ns, I64n n) : RdS cI w (Lt w) (some ⟨g, 0, none⟩) ns := by
  refine fun _ => ⟨g, 0, rfl, h.lt, fun i x hi => ⟨[.int .i64 x], ⟨rfl, hn x (List.mem_of_getElem? hi)⟩, fun j u hu => ?_⟩⟩
  match j, hu with
  | 0, hu =>
    simp only [List.getElem?_cons_zero, Option.some.injEq] at hu
    subst hu
    have e : 0 + i * cI.size + 0 = i := by simp [cI]
    rw [e, h.cell]
    simp [hi]
  | j + 1, hu => simp at hu
/-- What is known in a round over the elements. -/
def ES (w : World) (v : LV) (s : Value) (lns : Lns) (a1 : Option Addr) (ge : Nat) (q : Elt) (ks b1 o1 : Nat) (sw : List UInt8) (W : World) : Prop :=
  W.cell? ⟨ge, 0, none⟩ = some (.string (bs q.name)) ∧ W.cell? ⟨ge, 1, none⟩ = some (.int .i64 q.kind) ∧ W.cell? ⟨ge, 2, none⟩ = some (.int .i64 q.len) ∧ W.cell? ⟨ge, 3, none⟩ = some (.int .i64 q.grd) ∧ W.cell? ⟨ge, 4, none⟩ = some (.int .i64 q.spd) ∧ W.cell? ⟨ge, 6, none⟩ = some (.int .i64 (ks : Int)) ∧ W.cell? ⟨w.heap.size, 1, none⟩ = some (.slice a1 v.l.secs.length v.c1) ∧ W.cell? ⟨b1, o1 + ks, none⟩ = some (.string (bs sw)) ∧ (Ln w W v s lns ∧ v.A1 = a1 ∧ q.sec = (ks : Int) ∧ b1 < w.heap.size ∧ Blk W ge 35 #[.string (bs q.name), .int .i64 q.kind, .int .i64 q.len, .int .i64 q.grd, .int .i64 q.spd, .int .i64 q.slow, .int .i64 q.sec])
section
variable {w W W' : World} {v : LV} {s : Value} {lns : Lns} {a1 : Option Addr} {ge ks b1 o1 : Nat} {q : Elt} {sw : List UInt8}
theorem ES.mk (h : Ln w W v s lns) (ha : v.A1 = a1) (hq : q.sec = (ks : Int)) (hb : Blk W ge 35 #[.string (bs q.name), .int .i64 q.kind, .int .i64 q.len, .int .i64 q.grd, .int .i64 q.spd, .int .i64 q.slow, .int .i64 q.sec]) (hc : W.cell? ⟨b1, o1 + ks, none⟩ = some (.string (bs sw))) (hlt : b1 < w.heap.size) : ES w v s lns a1 ge q ks b1 o1 sw W :=
  ⟨hb.cell 0, hb.cell 1, hb.cell 2, hb.cell 3, hb.cell 4, hq ▸ hb.cell 6, ha ▸ h.1.x1, hc, h, ha, hq, hlt, hb⟩
theorem ES.all (h : ES w v s lns a1 ge q ks b1 o1 sw W) : Ln w W v s lns ∧ v.A1 = a1 ∧ q.sec = (ks : Int) ∧ b1 < w.heap.size ∧ Blk W ge 35 #[.string (bs q.name), .int .i64 q.kind, .int .i64 q.len, .int .i64 q.grd, .int .i64 q.spd, .int .i64 q.slow, .int .i64 q.sec] := h.2.2.2.2.2.2.2.2
theorem ES.now (h : ES w v s lns a1 ge q ks b1 o1 sw W) (hb : Below W.heap.size W W') : ES w v s lns a1 ge q ks b1 o1 sw W' :=
  ES.mk (h.all.1.now hb) h.all.2.1 h.all.2.2.1 (h.all.2.2.2.2.now hb) ((hb.cell (p := ⟨b1, o1 + ks, none⟩) (Nat.lt_of_lt_of_le h.all.2.2.2.1 h.all.1.bel.size)).trans h.2.2.2.2.2.2.2.1) h.all.2.2.2.1
theorem es_drew (h : ES w v s lns a1 ge q ks b1 o1 sw W) : ES w v s lns a1 ge q ks b1 o1 sw W.drew := h.now (Below.refl _ _).drew
theorem es_alloc (h : ES w v s lns a1 ge q ks b1 o1 sw W) (o : Obj) : ES w v s lns a1 ge q ks b1 o1 sw (W.alloc o) := h.now ((Below.refl _ _).alloc (Nat.le_refl _) o)
end
/-- A new line is appended to the lines, as a step of a region: the old lines stay readable. -/
theorem step_push {w0 w : World} {v : LV} {ops : Array Oper} {o : Oper} {a : Act} {K : Act → World → Prop} {Q : Exit → Act → World → Prop} {E : Prop} (hgd : o.guard = none) (s x : Operand)
    (ho : o.op = .call { callee := .builtin .append, args := #[s, x], argTypes := #[47, 47] }) (hr : LvR w0 v) (i : TypeInfo) (hi : Tryz.prog.info? 22 = some i) (hz : i.zero = some (.slice none 0 0)) (hsize : i.size = 1) (hby : i.bytes = 24)
    (sv : Value) (lns : Lns) (hs : a.eval s = sv) (hln : Ln w0 w v sv lns) (u : Value) (y : List (List UInt8)) (hy : (cL cS).rd w (Sep w 22 w.heap.size) [u] y) (g : Nat) (hx : a.eval x = .slice (some ⟨g, 0, none⟩) 1 1) (hcell : w.cell? ⟨g, 0, none⟩ = some u) (hu : u.oneCell' = true) (hlen : lns.length ≤ 100000)
    (h : ∀ v' w', Ln w0 w' v v' (lns ++ [y]) → Ln w0 w' v sv lns → Frm w0.heap.size 22 w w' → K (a.put o.dst v') w') : if Region.wanted o (yielded ops a.tmps) = true then Oper.wp Tryz.prog o a w K Q else E := by
  refine step_append_r (c := cL cS) hgd s x 47 ho w0.heap.size 22 i _ 24 Tryz.underlying47 hi hz hsize hby rfl (by decide) sv lns _ hs hln.2 [u] y hy (fun v hv => by simp at hv; subst hv; exact hu) g hx (fun j v hj => ?_) hlen (by omega) hln.bel.size fun v' w' h1 h2 hf => h v' w' ⟨hln.1.frm hr hf (by decide), h1⟩ ⟨hln.1.frm hr hf (by decide), h2.raise hf.size (Nat.le_refl _)⟩ hf
  match j, hj with
  | 0, hj =>
    simp only [List.getElem?_cons_zero, Option.some.injEq] at hj
    subst hj
    exact hcell
  | j + 1, hj => simp at hj
/-- .. a line that was built in the two blocks before. -/
theorem step_push_line {w0 W : World} {v : LV} {ops : Array Oper} {o : Oper} {a : Act} {K : Act → World → Prop} {Q : Exit → Act → World → Prop} {E : Prop} (hgd : o.guard = none) (s x : Operand)
    (ho : o.op = .call { callee := .builtin .append, args := #[s, x], argTypes := #[47, 47] }) (hr : LvR w0 v) (i : TypeInfo) (hi : Tryz.prog.info? 22 = some i) (hz : i.zero = some (.slice none 0 0)) (hsize : i.size = 1) (hby : i.bytes = 24)
    (sv : Value) (lns : Lns) (hs : a.eval s = sv) (cs : Array Value) (g n : Nat) (hln : Ln w0 ((W.alloc (.cells cs 9)).alloc (.cells #[.slice (some ⟨g, 0, none⟩) n n] 22)) v sv lns) (words : List (List UInt8)) (hcs : cs = (words.map fun x => Value.string (bs x)).toArray) (hn : n = words.length) (hg : g = W.heap.size) (hw : ∀ x ∈ words, x.length ≤ maxLen) (hwl : words.length ≤ 1000)
    (gx : Nat) (hx : a.eval x = .slice (some ⟨gx, 0, none⟩) 1 1) (hgx : gx = W.heap.size + 1) (hlen : lns.length ≤ 100000)
    (h : ∀ v' w', Ln w0 w' v v' (lns ++ [words]) → Ln w0 w' v sv lns → Frm w0.heap.size 22 ((W.alloc (.cells cs 9)).alloc (.cells #[.slice (some ⟨g, 0, none⟩) n n] 22)) w' → K (a.put o.dst v') w') :
    if Region.wanted o (yielded ops a.tmps) = true then Oper.wp Tryz.prog o a ((W.alloc (.cells cs 9)).alloc (.cells #[.slice (some ⟨g, 0, none⟩) n n] 22)) K Q else E := by
  subst hcs hn hg hgx
  have hb : Blk ((W.alloc (.cells (words.map fun x => Value.string (bs x)).toArray 9)).alloc (.cells #[.slice (some ⟨W.heap.size, 0, none⟩) words.length words.length] 22)) W.heap.size 9 (words.map fun x => Value.string (bs x)).toArray := (Blk.new W _ _ _ rfl).alloc _
  have hb2 : Blk ((W.alloc (.cells (words.map fun x => Value.string (bs x)).toArray 9)).alloc (.cells #[.slice (some ⟨W.heap.size, 0, none⟩) words.length words.length] 22)) (W.heap.size + 1) 22 #[.slice (some ⟨W.heap.size, 0, none⟩) words.length words.length] := Blk.new _ _ _ _ (by simp)
  exact step_push hgd s x ho hr i hi hz hsize hby sv lns hs hln _ words (line_rd hb hw (by decide) (by unfold maxLen; omega)) _ hx (hb2.cell 0) rfl hlen h
/-- .. a line that was built by an append. -/
theorem step_push_row {w0 W : World} {v : LV} {ops : Array Oper} {o : Oper} {a : Act} {K : Act → World → Prop} {Q : Exit → Act → World → Prop} {E : Prop} (hgd : o.guard = none) (s x : Operand)
    (ho : o.op = .call { callee := .builtin .append, args := #[s, x], argTypes := #[47, 47] }) (hr : LvR w0 v) (i : TypeInfo) (hi : Tryz.prog.info? 22 = some i) (hz : i.zero = some (.slice none 0 0)) (hsize : i.size = 1) (hby : i.bytes = 24)
    (sv : Value) (lns : Lns) (hs : a.eval s = sv) (A : Option Addr) (n c : Nat) (words : List (List UInt8)) (hlw : Lw w0 W v sv lns (.slice A n c) words)
    (gx : Nat) (hx : a.eval x = .slice (some ⟨gx, 0, none⟩) 1 1) (hgx : gx = W.heap.size) (hlen : lns.length ≤ 100000)
    (h : ∀ v' w', Ln w0 w' v v' (lns ++ [words]) → Ln w0 w' v sv lns → Frm w0.heap.size 22 (W.alloc (.cells #[.slice A n c] 22)) w' → K (a.put o.dst v') w') :
    if Region.wanted o (yielded ops a.tmps) = true then Oper.wp Tryz.prog o a (W.alloc (.cells #[.slice A n c] 22)) K Q else E := by
  subst hgx
  have hb2 : Blk (W.alloc (.cells #[.slice A n c] 22)) W.heap.size 22 #[.slice A n c] := Blk.new _ _ _ _ rfl
  obtain ⟨hln, _, _, _, hrd⟩ := (hlw.now ((Below.refl _ _).alloc (Nat.le_refl _) (.cells #[.slice A n c] 22))).close
  exact step_push hgd s x ho hr i hi hz hsize hby sv lns hs hln _ words hrd _ hx (hb2.cell 0) rfl hlen h
theorem cnt_le : ∀ (ls : Lns) (b : Nat), (∀ x ∈ ls, x.length ≤ b) → cnt ls ≤ ls.length * b
  | [], _, _ => by simp [cnt]
  | x :: r, b, h => by
    have ih := cnt_le r b fun y hy => h y (by simp [hy])
    have hx := h x (by simp)
    unfold cnt at ih ⊢
    simp only [List.map_cons, List.sum_cons, List.length_cons, Nat.add_mul]
    omega
theorem cnt_lines (l : Lay) : cnt (linesL l) ≤ (linesL l).length * 7 := by
  refine cnt_le _ _ fun x hx => ?_
  simp only [linesL, List.mem_cons, List.mem_append, List.mem_map] at hx
  rcases hx with rfl | ⟨a, _, rfl⟩ | ⟨a, _, rfl⟩ | ⟨a, _, rfl⟩ | ⟨a, _, rfl⟩ | ⟨a, _, rfl⟩
  · simp
  · simp [secW]
  · simp only [eltW, numsE]; split <;> simp
  · simp [jntW]
  · simp [sgnW]
  · simp [blsW]
theorem joinLC {ls : Lns} {t : List UInt8} {x : Int} (h : joinF ls = (t, x)) (A : Option Addr) (cap : Nat) (w : World) (hr : RdS (cL cS) w (Lt w) A ls) (hl : ls.length ≤ 100000000) (hcn : cnt ls ≤ 100000000) :
    Calls Tryz.prog 15 #[.slice A ls.length cap] w fun e w' => e = .returned (.tuple #[.string (bs t), .int .i64 x]) ∧ Below w.heap.size w w' := by
  have := join_prog ls A cap w hr hl hcn
  rw [h] at this
  exact this
end Go.Proofs.YtopoknocfoiiaaaGreatDoor
