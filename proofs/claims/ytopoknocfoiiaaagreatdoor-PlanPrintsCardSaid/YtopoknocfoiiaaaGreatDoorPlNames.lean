/- The walk of checkNames. -/
import Derived.Test.YtopoknocfoiiaaaGreatDoorPlWalksC
namespace Go.Proofs.YtopoknocfoiiaaaGreatDoor
set_option linter.unusedVariables false
set_option linter.unusedSimpArgs false
open Go.RowKit
open Go.Maps (Keyed)
attribute [local go_sem] bs_size bs_get bs_append bs_extract bs_toList
attribute [-go_sem] run_equalIn_agg
/-- A row of texts of the call's own, in block g. -/
def SRow (w : World) (T : TypeId) (g cap : Nat) (l : List (List UInt8)) : Prop := ∃ cur : Array Value, Blk w g T cur ∧ cur.size = cap ∧ cur.toList.take l.length = l.map (fun x => Value.string (bs x)) ∧ (l.length ≤ cap ∧ cap ≤ maxLen)
section
variable {w w' : World} {T : TypeId} {g cap : Nat} {l : List (List UInt8)}
theorem SRow.now (h : SRow w T g cap l) (hb : Below w.heap.size w w') : SRow w' T g cap l := by
  obtain ⟨cur, h1, h2⟩ := h
  exact ⟨cur, h1.now hb, h2⟩
theorem SRow.lt (h : SRow w T g cap l) : g < w.heap.size := by
  obtain ⟨cur, h1, h2⟩ := h
  exact h1.lt
theorem SRow.cap_le (h : SRow w T g cap l) : l.length ≤ cap ∧ cap ≤ maxLen := by
  obtain ⟨cur, h1, h2, h3, h4⟩ := h
  exact h4
theorem SRow.at (h : SRow w T g cap l) {i : Nat} (hi : i < l.length) : w.cell? ⟨g, i, none⟩ = some (.string (bs l[i])) ∧ ∀ q, w.frozen? ⟨g, q, none⟩ = false := by
  obtain ⟨cur, h1, h2, h3, h4⟩ := h
  refine ⟨?_, fun q => h1.free q⟩
  rw [h1.cell]
  have e : (cur.toList.take l.length)[i]? = some (.string (bs l[i])) := by rw [h3, List.getElem?_map, List.getElem?_eq_getElem hi]; rfl
  rw [List.getElem?_take, if_pos hi, Array.getElem?_toList] at e
  exact e
theorem SRow.own (h : SRow w T g cap l) {base : Nat} (hg : base ≤ g) : w.ownsRow base T 1 (.slice (some ⟨g, 0, none⟩) l.length cap) l.length (l.map fun x => Value.string (bs x)) := by
  obtain ⟨cur, h1, h2, h3, h4, h5⟩ := h
  exact ⟨by simp, Or.inr ⟨g, cap, cur, rfl, hg, h1, h4, h5, by omega, by simpa using h3⟩⟩
theorem SRow.of_own {base : Nat} {v : Value} (h : w.ownsRow base T 1 v l.length (l.map fun x => Value.string (bs x))) (hl : 0 < l.length) : ∃ g cap, v = .slice (some ⟨g, 0, none⟩) l.length cap ∧ base ≤ g ∧ SRow w T g cap l := by
  rcases h.2 with ⟨_, h0⟩ | ⟨g, cap, cur, rfl, h1, h2, h3, h4, h5, h6⟩
  · omega
  · exact ⟨g, cap, rfl, h1, cur, h2, by omega, by simpa using h6, h3, h4⟩
theorem SRow.set (h : SRow w T g cap l) {i : Nat} (x : List UInt8) (hi : i < l.length) : SRow (w.setCell ⟨g, i, none⟩ (.string (bs x))) T g cap (l.set i x) := by
  obtain ⟨cur, h1, h2, h3, h4⟩ := h
  refine ⟨cur.setIfInBounds i (.string (bs x)), h1.set _ _, by rw [Array.size_setIfInBounds]; exact h2, ?_, by rw [List.length_set]; exact h4⟩
  rw [List.length_set, Array.toList_setIfInBounds, List.take_set, h3, List.map_set]
end
theorem SRow.rds {w : World} {T : TypeId} {g cap : Nat} {l : List (List UInt8)} (h : SRow w T g cap l) (hx : ∀ x ∈ l, x.length ≤ maxLen) : RdS cS w (Lt w) (some ⟨g, 0, none⟩) l := by
  refine fun _ => ⟨g, 0, rfl, h.lt, fun i x hi => ⟨[.string (bs x)], ⟨rfl, hx x (List.mem_of_getElem? hi)⟩, fun j u hu => ?_⟩⟩
  obtain ⟨hlt, rfl⟩ := List.getElem?_eq_some_iff.1 hi
  match j, hu with
  | 0, hu =>
    simp only [List.getElem?_cons_zero, Option.some.injEq] at hu
    subst hu
    have := (h.at hlt).1
    have e : 0 + i * cS.size + 0 = i := by simp [cS]
    rw [e]
    exact this
  | j + 1, hu => simp at hu
theorem infoStrT : (Tryz.prog.info? 9).map (fun i => (i.zero, i.size, i.bytes)) = some (some (.string ByteArray.empty), 1, 16) := by kernel_rfl

theorem SRow.of_own2 {w : World} {T : TypeId} {g cap : Nat} {l : List (List UInt8)} {base n : Nat} (h : w.ownsRow base T 1 (.slice (some ⟨g, 0, none⟩) n cap) n (l.map fun x => Value.string (bs x))) (hn : n = l.length) : SRow w T g cap l := by
  subst hn
  rcases h.2 with ⟨h0, _⟩ | ⟨g', cap', cur, hv, h1, h2, h3, h4, h5, h6⟩
  · cases h0
  · simp only [Value.slice.injEq, Option.some.injEq, Addr.mk.injEq] at hv
    obtain ⟨⟨rfl, _, _⟩, _, rfl⟩ := hv
    exact ⟨cur, h2, by omega, by simpa using h6, h3, h4⟩
theorem SRow.kept {w w' : World} {T : TypeId} {g cap : Nat} {l : List (List UInt8)} {B : Nat} (h : SRow w T g cap l) (hg : w.grownBy w' (some B)) (hne : g ≠ B) : SRow w' T g cap l := by
  have hlt := h.lt
  obtain ⟨cur, h1, h2⟩ := h
  exact ⟨cur, (hg.block g hlt (by simpa using hne)).trans h1, h2⟩
theorem SRow.made (w : World) (T : TypeId) (g cap : Nat) (hg : g = w.heap.size) (hc : cap ≤ maxLen) (z : Value) : SRow (w.alloc (.cells (List.replicate cap z).toArray T)) T g cap [] :=
  ⟨_, Blk.new _ _ _ _ hg, by simp, by simp, Nat.zero_le _, hc⟩
theorem Bx.grown {w0 w w' : World} {v : LV} {B : Nat} (h : Bx w0 w v) (hr : LvR w0 v) (hg : w.grownBy w' (some B)) (hB : w0.heap.size < B) : Bx w0 w' v :=
  have hb : Below w0.heap.size w0 w' := h.bel.grown hg h.bel.size fun k hk => by simp only [Option.some.injEq] at hk; omega
  ⟨hb, (hg.block _ h.lt (by simp; omega)).trans h.blk, hr.now hb⟩
theorem made_one (z : Value) (n : Nat) (h : z.cells = #[z]) : madeCells z.cells n = (List.replicate n z).toArray := by
  unfold madeCells
  apply Array.toList_inj.1
  rw [h]
  apply List.ext_getElem?
  intro i
  by_cases hi : i < n
  · simp [hi, Nat.mod_one]
  · simp [hi]
theorem nameC {s : List UInt8} {b : Bool} (h : nameB s = b) (w : World) (hs : s.length ≤ maxLen) : Calls Tryz.prog 54 #[.string (bs s)] w fun e w' => e = .returned (.bool b) ∧ Below w.heap.size w w' := h ▸ name_any s w hs
theorem mkStr (N : Nat) (hN : N ≤ 1000000) (W : World) : (Instr.makeSlice 22 (.int .i64 0) (.int .i64 (N : Int))).run Tryz.prog W = .ok (.slice (some ⟨W.heap.size, 0, none⟩) 0 N) (W.alloc (.cells (List.replicate N (Value.string ByteArray.empty)).toArray 9)) := by
  obtain ⟨i0, hi, hz0, hz1, hz2⟩ := info_parts infoStrT
  have h := run_make (P := Tryz.prog) W 22 9 i0 (.string ByteArray.empty) Tryz.underlying22 hi hz0 .i64 .i64 0 (N : Int) (by omega) (by omega) (by rw [hz2]; omega) (by omega)
  rw [hz1, show ((N : Int)).toNat = N by omega, Nat.mul_one, made_one _ _ rfl] at h
  exact h
theorem slice_rd {w : World} {S : Nat → Prop} {a : Option Addr} {l : List (List UInt8)} {d : Nat} (h : RdS cS w S a l) (hm : l.length ≤ maxLen ∧ l.length ≤ d) : (cL cS).rd w S [.slice a l.length d] l := ⟨a, d, rfl, hm, h⟩
theorem rds4 {w : World} {g : Nat} {T : TypeId} {a1 a2 a3 a4 : Option Addr} {d1 d2 d3 d4 : Nat} {l1 l2 l3 l4 : List (List UInt8)} (h : Blk w g T #[.slice a1 l1.length d1, .slice a2 l2.length d2, .slice a3 l3.length d3, .slice a4 l4.length d4])
    (h1 : (cL cS).rd w (Lt w) [.slice a1 l1.length d1] l1) (h2 : (cL cS).rd w (Lt w) [.slice a2 l2.length d2] l2) (h3 : (cL cS).rd w (Lt w) [.slice a3 l3.length d3] l3) (h4 : (cL cS).rd w (Lt w) [.slice a4 l4.length d4] l4) : RdS (cL cS) w (Lt w) (some ⟨g, 0, none⟩) [l1, l2, l3, l4] := by
  refine fun _ => ⟨g, 0, rfl, h.lt, fun i x hx => ?_⟩
  have key : ∀ (i : Nat) (u : Value), (#[Value.slice a1 l1.length d1, .slice a2 l2.length d2, .slice a3 l3.length d3, .slice a4 l4.length d4])[i]? = some u → ∀ (j : Nat) (y : Value), [u][j]? = some y → w.cell? ⟨g, 0 + i * (cL cS).size + j, none⟩ = some y := by
    intro i u hu j y hy
    match j, hy with
    | 0, hy =>
      simp only [List.getElem?_cons_zero, Option.some.injEq] at hy
      subst hy
      have e : 0 + i * (cL cS).size + 0 = i := by simp [cL]
      rw [e, h.cell, hu]
    | j + 1, hy => simp at hy
  match i, hx with
  | 0, hx => simp at hx; subst hx; exact ⟨_, h1, key 0 _ rfl⟩
  | 1, hx => simp at hx; subst hx; exact ⟨_, h2, key 1 _ rfl⟩
  | 2, hx => simp at hx; subst hx; exact ⟨_, h3, key 2 _ rfl⟩
  | 3, hx => simp at hx; subst hx; exact ⟨_, h4, key 3 _ rfl⟩
  | i + 4, hx => simp at hx
theorem RdS.elL {w : World} {S : Nat → Prop} {A : Option Addr} {l : List (List (List UInt8))} (h : RdS (cL cS) w S A l) {i : Nat} (hi : i < l.length) :
    ∃ b off A1 c1, A = some ⟨b, off, none⟩ ∧ S b ∧ w.cell? ⟨b, off + i, none⟩ = some (.slice A1 l[i].length c1) ∧ (l[i].length ≤ maxLen ∧ l[i].length ≤ c1) ∧ RdS cS w S A1 l[i] := by
  obtain ⟨b, off, h1, h2, h3⟩ := h (by omega)
  obtain ⟨ys, ⟨A1, c1, rfl, h4, h5⟩, h6⟩ := h3 i l[i] (List.getElem?_eq_getElem hi)
  have := h6 0 _ rfl
  have e : off + i * (cL cS).size + 0 = off + i := by simp [cL]
  rw [e] at this
  exact ⟨b, off, A1, c1, h1, h2, this, h4, h5⟩
/-! ### What is found on the lists of names -/
def nmLs (ls : Lns) : Int := if (ls.all fun l => l.all nameB) = false then 3 else if (ls.all fun l => decide l.Nodup) = false then 8 else 0
def namesL (l : Lay) : Lns := [[l.name], l.secs, l.els.map Elt.name, l.sgs.map Sgn.name]
theorem nmC_ls (l : Lay) : nmC l = nmLs (namesL l) := by
  unfold nmC nmLs
  have e1 : ((namesL l).all fun l => l.all nameB) = nmsB l := by simp [namesL, nmsB, List.all_map, Function.comp_def]
  have e2 : ((namesL l).all fun l => decide l.Nodup) = difB l := by simp [namesL, difB]
  rw [e1, e2]
theorem nodup_take {α : Type} {l : List α} {k : Nat} (h : k < l.length) (hn : (l.take k).Nodup) (hx : l[k] ∉ l.take k) : (l.take (k + 1)).Nodup := by
  rw [List.take_succ_eq_append_getElem h, List.nodup_append]
  exact ⟨hn, by simp, fun a ha b hb => by simp only [List.mem_singleton] at hb; subst hb; exact fun e => hx (e ▸ ha)⟩
theorem not_nodup {α : Type} {l : List α} {k : Nat} (h : k < l.length) (hx : l[k] ∈ l.take k) : ¬ l.Nodup := by
  intro hn
  obtain ⟨i, hi, he⟩ := List.mem_iff_getElem.1 hx
  simp only [List.getElem_take] at he
  rw [List.length_take] at hi
  exact List.pairwise_iff_getElem.1 hn i k (by omega) h (by omega) he
theorem nmLs_name {ls : Lns} {i j : Nat} (hi : i < ls.length) (hj : j < ls[i].length) (h : nameB ls[i][j] = false) : nmLs ls = 3 := by
  unfold nmLs
  rw [if_pos (all_no hi (all_no hj h))]
theorem nmLs_dup {ls : Lns} {i j : Nat} (ha : (ls.all fun l => l.all nameB) = true) (hi : i < ls.length) (hj : j < ls[i].length) (h : ls[i][j] ∈ ls[i].take j) : nmLs ls = 8 := by
  unfold nmLs
  rw [if_neg (by rw [ha]; simp), if_pos (all_no hi (decide_eq_false (not_nodup hj h)))]
theorem nmLs_ok {ls : Lns} (ha : (ls.all fun l => l.all nameB) = true) (hb : (ls.all fun l => decide l.Nodup) = true) : nmLs ls = 0 := by
  unfold nmLs
  rw [if_neg (by rw [ha]; simp), if_neg (by rw [hb]; simp)]
theorem wpList_look_setB {P : Program} (w : World) {ops : Array Oper} {rest : List Oper} {o : Oper} {a : Act} {Q : Exit → Act → World → Prop} (hg : o.guard = none) (m x : Operand) (t : TypeId) (hop : o.op = Op.lookup t m x false) (k e : TypeId) (K : Keyed P k) (ht : P.underlying t = some (.map k e)) (he : P.underlying e = some .bool) (hz : (zeroValue e).run P w = .ok (.bool false) w)
    (b n : Nat) (ks : List Lit) (hm : a.eval m = .map (some b)) (hown : SetW P k e w b n ks) (key : Value) (kl : Lit) (hx : a.eval x = key) (hkey : keyOf P k key = some kl) (c : Bool) (hc : (ks.any fun x => x.sameKey kl) = c)
    (hK : wpList P ops Q rest (a.put o.dst (.bool c)) w) : wpList P ops Q (o :: rest) a w := by
  subst hc
  exact wpList_look_set w hg m x t hop k e K ht he hz b n ks hm hown key kl hx hkey hK
set_option maxRecDepth 100000 in
set_option maxHeartbeats 16000000 in
theorem checkNames_any (v : LV) (w : World) (hr : LvR w v) (hm1 : v.l.secs.length ≤ 1000) (hm2 : v.l.els.length ≤ 1000) (hm4 : v.l.sgs.length ≤ 1000) : Calls Tryz.prog 26 #[lvA v] w fun e w' => e = .returned (.int .i64 (nmC v.l)) ∧ Below w.heap.size w w' := by
  obtain ⟨i0, hi0, hz0, hz1, hz2⟩ := info_parts infoStrT
  have hbx := Bx.new hr
  have HC := Lib.hid (nmC_ls v.l)
  have mk1 := mkStr v.l.els.length (by omega)
  have HNM : Hid (∀ l : List Elt, True) := Lib.hid (fun _ => trivial)
  unfold lvA
  go_enter Tryz.func26, Tryz.ntmps26
  go_wp2_with fail
  have hs1 : SRow ((w.alloc (.cells #[.string (bs v.l.name), .slice v.A1 v.l.secs.length v.c1, .slice v.A2 v.l.els.length v.c2, .slice v.A3 v.l.jts.length v.c3, .slice v.A4 v.l.sgs.length v.c4, .slice v.A5 v.l.bls.length v.c5] 28)).alloc (.cells (List.replicate v.l.els.length (Value.string ByteArray.empty)).toArray 9)) 9 (w.heap.size + 1) v.l.els.length [] := SRow.made _ _ _ _ (by simp) (by unfold maxLen; omega) _
  have hbx1 := hbx.alloc (.cells (List.replicate v.l.els.length (Value.string ByteArray.empty)).toArray 9)
  clear mk1 hbx
  go_loopw [3, 26] (fun s n wr => ∃ k : Nat, k ≤ v.l.els.length ∧ n = .int .i64 k ∧ s = .slice (some ⟨w.heap.size + 1, 0, none⟩) k v.l.els.length ∧ SRow wr 9 (w.heap.size + 1) v.l.els.length ((v.l.els.take k).map Elt.name) ∧ Bx w wr v) (fun _ n _ => v.l.els.length - (intOf n).toNat)
  case atStart => exact ⟨0, Nat.zero_le _, rfl, rfl, hs1, hbx1⟩
  case round =>
    obtain ⟨k, hk, rfl, rfl, hs, hb⟩ := hrel
    clear hbx1 hs1
    by_cases hlt : k < v.l.els.length
    · have hki : (k : Int) < (v.l.els.length : Int) := by omega
      obtain ⟨b, off, hA, lb, ho, y0, y1, y2, y3, y4, y5, y6⟩ := hb.rd.r2.elE hlt
      have hba := hb.alloc (.cells #[.string (bs v.l.els[k].name), .int .i64 v.l.els[k].kind, .int .i64 v.l.els[k].len, .int .i64 v.l.els[k].grd, .int .i64 v.l.els[k].spd, .int .i64 v.l.els[k].slow, .int .i64 v.l.els[k].sec] 35)
      have hbb := hba.alloc (.cells #[.string (bs v.l.els[k].name)] 9)
      have hsb := (hs.now ((Below.refl _ _).alloc (Nat.le_refl _) (.cells #[.string (bs v.l.els[k].name), .int .i64 v.l.els[k].kind, .int .i64 v.l.els[k].len, .int .i64 v.l.els[k].grd, .int .i64 v.l.els[k].spd, .int .i64 v.l.els[k].slow, .int .i64 v.l.els[k].sec] 35))).now ((Below.refl _ _).alloc (Nat.le_refl _) (.cells #[.string (bs v.l.els[k].name)] 9))
      have hal : ((wr.alloc (.cells #[.string (bs v.l.els[k].name), .int .i64 v.l.els[k].kind, .int .i64 v.l.els[k].len, .int .i64 v.l.els[k].grd, .int .i64 v.l.els[k].spd, .int .i64 v.l.els[k].slow, .int .i64 v.l.els[k].sec] 35)).alloc (.cells #[.string (bs v.l.els[k].name)] 9)).cell? ⟨wr.heap.size + 1, 0, none⟩ = some (.string (bs v.l.els[k].name)) := (Blk.new _ _ _ _ (by simp)).cell 0
      have HT : Hid ((v.l.els.take (k + 1)).map Elt.name = (v.l.els.take k).map Elt.name ++ [v.l.els[k].name]) := Lib.hid (by rw [List.take_succ_eq_append_getElem hlt, List.map_append]; rfl)
      have hown := hsb.own (base := w.heap.size + 1) (Nat.le_refl _)
      have hlen : ((v.l.els.take k).map Elt.name).length = k := by simp; omega
      rw [hlen] at hown
      have HLN := Lib.hid hlen
      rw [hA]
      clear hA ho hlen hsb
      generalize v.l.els[k] = q at *
      generalize (v.l.els.take k).map Elt.name = ws at *
      go_wp2_with (at_builtin; go_loud (refine wpList_append_fits _ rfl _ _ 22 rfl (w.heap.size + 1) 9 i0 1 Tryz.underlying22 hi0 hz1 (w.heap.size + 1) k v.l.els.length _ rfl hown ⟨wr.heap.size + 1, 0, none⟩ 1 1 [.string (bs q.name)] (by simp [Act.eval]) rfl (fun j u hj => by (match j, hj with | 0, hj => (simp at hj; subst hj; exact hal) | j + 1, hj => simp at hj)) (fun u hu => by (simp at hu; subst hu; rfl)) (by omega) ?_); intro w5 hown5 hgr5)
      have hs5 := SRow.of_own2 (l := ws ++ [q.name]) (by simpa using hown5) (by rw [List.length_append, HLN.out]; rfl)
      go_roundw
      case rel => exact ⟨k + 1, by omega, by go_num, by go_num, by rw [HT.out]; exact hs5, hbb.grown hr hgr5 (by omega)⟩
      case measure => simp [intOf]; omega
    · obtain rfl : k = v.l.els.length := by omega
      rw [List.take_length] at hs
      have mk2 := mkStr v.l.sgs.length (by omega)
      have y4 := hb.x4
      have hlt4 := hb.lt
      have hbx2 := hb.alloc (.cells (List.replicate v.l.sgs.length (Value.string ByteArray.empty)).toArray 9)
      have z4 := hbx2.x4
      have hs1 := hs.now ((Below.refl _ _).alloc (Nat.le_refl _) (.cells (List.replicate v.l.sgs.length (Value.string ByteArray.empty)).toArray 9))
      have hs2 : SRow (wr.alloc (.cells (List.replicate v.l.sgs.length (Value.string ByteArray.empty)).toArray 9)) 9 wr.heap.size v.l.sgs.length [] := SRow.made _ _ _ _ rfl (by unfold maxLen; omega) _
      have hg12 := hs.lt
      clear hs hb
      go_wp2_with fail
      clear mk2 y4 z4
      obtain ⟨g2, hg2⟩ : ∃ g2, g2 = wr.heap.size := ⟨_, rfl⟩
      rw [← hg2] at hs2 hg12 hlt4 ⊢
      clear hg2
      go_loopw [6, 43] (fun s n wr => ∃ k : Nat, k ≤ v.l.sgs.length ∧ n = .int .i64 k ∧ s = .slice (some ⟨g2, 0, none⟩) k v.l.sgs.length ∧ SRow wr 9 g2 v.l.sgs.length ((v.l.sgs.take k).map Sgn.name) ∧ SRow wr 9 (w.heap.size + 1) v.l.els.length (v.l.els.map Elt.name) ∧ Bx w wr v) (fun _ n _ => v.l.sgs.length - (intOf n).toNat)
      case atStart => exact ⟨0, Nat.zero_le _, rfl, rfl, hs2, hs1, hbx2⟩
      case round =>
        obtain ⟨k, hk, rfl, rfl, hs, hs1, hb⟩ := hrel
        clear hbx2 hs2
        by_cases hlt : k < v.l.sgs.length
        · have hki : (k : Int) < (v.l.sgs.length : Int) := by omega
          obtain ⟨b, off, hA, lb, ho, y0, y1, y2, y3⟩ := hb.rd.r4.elG hlt
          have hba := hb.alloc (.cells #[.string (bs v.l.sgs[k].name), .int .i64 v.l.sgs[k].pos.el, .int .i64 v.l.sgs[k].pos.sd, .int .i64 v.l.sgs[k].ovl] 41)
          have hbb := hba.alloc (.cells #[.string (bs v.l.sgs[k].name)] 9)
          have hal1 := (Below.refl wr.heap.size wr).alloc (Nat.le_refl _) (.cells #[.string (bs v.l.sgs[k].name), .int .i64 v.l.sgs[k].pos.el, .int .i64 v.l.sgs[k].pos.sd, .int .i64 v.l.sgs[k].ovl] 41)
          have hsb := (hs.now hal1).now ((Below.refl _ _).alloc (Nat.le_refl _) (.cells #[.string (bs v.l.sgs[k].name)] 9))
          have hsb1 := (hs1.now hal1).now ((Below.refl _ _).alloc (Nat.le_refl _) (.cells #[.string (bs v.l.sgs[k].name)] 9))
          have hal : ((wr.alloc (.cells #[.string (bs v.l.sgs[k].name), .int .i64 v.l.sgs[k].pos.el, .int .i64 v.l.sgs[k].pos.sd, .int .i64 v.l.sgs[k].ovl] 41)).alloc (.cells #[.string (bs v.l.sgs[k].name)] 9)).cell? ⟨wr.heap.size + 1, 0, none⟩ = some (.string (bs v.l.sgs[k].name)) := (Blk.new _ _ _ _ (by simp)).cell 0
          have HT : Hid ((v.l.sgs.take (k + 1)).map Sgn.name = (v.l.sgs.take k).map Sgn.name ++ [v.l.sgs[k].name]) := Lib.hid (by rw [List.take_succ_eq_append_getElem hlt, List.map_append]; rfl)
          have hown := hsb.own (base := g2) (Nat.le_refl _)
          have hlen : ((v.l.sgs.take k).map Sgn.name).length = k := by simp; omega
          rw [hlen] at hown
          have HLN := Lib.hid hlen
          rw [hA]
          clear hA ho hlen hsb hal1 hs hs1
          generalize v.l.sgs[k] = q at *
          generalize (v.l.sgs.take k).map Sgn.name = ws at *
          go_wp2_with (at_builtin; go_loud (refine wpList_append_fits _ rfl _ _ 22 rfl g2 9 i0 1 Tryz.underlying22 hi0 hz1 g2 k v.l.sgs.length _ rfl hown ⟨wr.heap.size + 1, 0, none⟩ 1 1 [.string (bs q.name)] (by simp [Act.eval]) rfl (fun j u hj => by (match j, hj with | 0, hj => (simp at hj; subst hj; exact hal) | j + 1, hj => simp at hj)) (fun u hu => by (simp at hu; subst hu; rfl)) (by omega) ?_); intro w5 hown5 hgr5)
          have hs5 := SRow.of_own2 (l := ws ++ [q.name]) (by simpa using hown5) (by rw [List.length_append, HLN.out]; rfl)
          go_roundw
          case rel => exact ⟨k + 1, by omega, by go_num, by go_num, by rw [HT.out]; exact hs5, hsb1.kept hgr5 (by omega), hbb.grown hr hgr5 (by omega)⟩
          case measure => simp [intOf]; omega
        · obtain rfl : k = v.l.sgs.length := by omega
          rw [List.take_length] at hs
          have x0 := hb.x0
          have x1 := hb.x1
          have hlt5 := hb.lt
          have al1 := (Below.refl wr.heap.size wr).alloc (Nat.le_refl _) (.cells #[.string (bs v.l.name)] 9)
          have hb1 := hb.now al1
          have x0' := hb1.x0
          have x1' := hb1.x1
          have hs1' := hs1.now al1
          have hs2' := hs.now al1
          have hN0 : Blk (wr.alloc (.cells #[.string (bs v.l.name)] 9)) wr.heap.size 9 #[.string (bs v.l.name)] := Blk.new _ _ _ _ rfl
          have hl1 : (v.l.els.map Elt.name).length = v.l.els.length := by simp
          have hl2 : (v.l.sgs.map Sgn.name).length = v.l.sgs.length := by simp
          have al2 := (Below.refl _ (wr.alloc (.cells #[.string (bs v.l.name)] 9))).alloc (Nat.le_refl _) (.cells #[.slice (some ⟨wr.heap.size, 0, none⟩) 1 1, .slice v.A1 v.l.secs.length v.c1, .slice (some ⟨w.heap.size + 1, 0, none⟩) v.l.els.length v.l.els.length, .slice (some ⟨g2, 0, none⟩) v.l.sgs.length v.l.sgs.length] 22)
          have hLB : Blk ((wr.alloc (.cells #[.string (bs v.l.name)] 9)).alloc (.cells #[.slice (some ⟨wr.heap.size, 0, none⟩) 1 1, .slice v.A1 v.l.secs.length v.c1, .slice (some ⟨w.heap.size + 1, 0, none⟩) v.l.els.length v.l.els.length, .slice (some ⟨g2, 0, none⟩) v.l.sgs.length v.l.sgs.length] 22)) (wr.heap.size + 1) 22 #[.slice (some ⟨wr.heap.size, 0, none⟩) ([v.l.name] : List (List UInt8)).length 1, .slice v.A1 v.l.secs.length v.c1, .slice (some ⟨w.heap.size + 1, 0, none⟩) (v.l.els.map Elt.name).length v.l.els.length, .slice (some ⟨g2, 0, none⟩) (v.l.sgs.map Sgn.name).length v.l.sgs.length] := by
            rw [hl1, hl2]; exact Blk.new _ _ _ _ (by simp)
          have hs1f := hs1'.now al2
          have hs2f := hs2'.now al2
          have hN0f := hN0.now al2
          have hbf := hb1.now al2
          have nel : ∀ x ∈ v.l.els.map Elt.name, x.length ≤ maxLen := by
            intro x hx
            obtain ⟨e, he, rfl⟩ := List.mem_map.1 hx
            obtain ⟨i, hi⟩ := List.getElem?_of_mem he
            obtain ⟨hil, rfl⟩ := List.getElem?_eq_some_iff.1 hi
            obtain ⟨_, _, _, _, ho, _⟩ := hr.r2.elE hil
            exact ho.1
          have nsg : ∀ x ∈ v.l.sgs.map Sgn.name, x.length ≤ maxLen := by
            intro x hx
            obtain ⟨e, he, rfl⟩ := List.mem_map.1 hx
            obtain ⟨i, hi⟩ := List.getElem?_of_mem he
            obtain ⟨hil, rfl⟩ := List.getElem?_eq_some_iff.1 hi
            obtain ⟨_, _, _, _, ho, _⟩ := hr.r4.elG hil
            exact ho.1
          have hrL : RdS (cL cS) ((wr.alloc (.cells #[.string (bs v.l.name)] 9)).alloc (.cells #[.slice (some ⟨wr.heap.size, 0, none⟩) 1 1, .slice v.A1 v.l.secs.length v.c1, .slice (some ⟨w.heap.size + 1, 0, none⟩) v.l.els.length v.l.els.length, .slice (some ⟨g2, 0, none⟩) v.l.sgs.length v.l.sgs.length] 22)) (Lt _) (some ⟨wr.heap.size + 1, 0, none⟩) (namesL v.l) :=
            rds4 hLB (slice_rd (fun _ => ⟨wr.heap.size, 0, rfl, hN0f.lt, fun i x hx => by
                match i, hx with
                | 0, hx =>
                  simp only [List.getElem?_cons_zero, Option.some.injEq] at hx
                  subst hx
                  refine ⟨[.string (bs v.l.name)], ⟨rfl, hr.nm⟩, fun j u hu => ?_⟩
                  match j, hu with
                  | 0, hu =>
                    simp only [List.getElem?_cons_zero, Option.some.injEq] at hu
                    subst hu
                    exact hN0f.cell 0
                  | j + 1, hu => simp at hu
                | i + 1, hx => simp at hx⟩) (by unfold maxLen; simp)) (slice_rd hbf.rd.r1 hr.n1) (slice_rd (hs1f.rds nel) (by rw [hl1]; unfold maxLen; omega)) (slice_rd (hs2f.rds nsg) (by rw [hl2]; unfold maxLen; omega))
          have hBf := hbf.bel
          have hbx0 : Hid (∀ l ∈ namesL v.l, l.length ≤ 1000) := Lib.hid (by
            intro l hl
            simp only [namesL, List.mem_cons, List.not_mem_nil, or_false] at hl
            rcases hl with rfl | rfl | rfl | rfl
            · simp
            · exact hm1
            · rw [hl1]; exact hm2
            · rw [hl2]; exact hm4)
          have hL4 : Hid ((namesL v.l).length = 4) := Lib.hid rfl
          clear hb hs hs1 hN0 hs1' hs2' hb1 al1 al2 hLB hs1f hs2f hN0f hbf nel nsg hl1 hl2 x0' x1' hm1 hm2 hm4 hg12 hlt4 hr hlt hk
          have hmm := @run_makeMap Tryz.prog
          generalize namesL v.l = ls at *
          go_wp2_with fail
          clear hmm
          obtain ⟨gL, hgL⟩ : ∃ gL, gL = wr.heap.size + 1 := ⟨_, rfl⟩
          generalize (wr.alloc (.cells #[.string (bs v.l.name)] 9)).alloc (.cells #[.slice (some ⟨wr.heap.size, 0, none⟩) 1 1, .slice v.A1 v.l.secs.length v.c1, .slice (some ⟨w.heap.size + 1, 0, none⟩) v.l.els.length v.l.els.length, .slice (some ⟨g2, 0, none⟩) v.l.sgs.length v.l.sgs.length] 22) = W3 at *
          rw [← hgL] at hrL ⊢
          clear hgL x0 x1 hlt5
          go_loopw [63] (fun n wr => ∃ i : Nat, i ≤ 4 ∧ n = .int .i64 i ∧ Below w.heap.size w wr ∧ RdS (cL cS) wr (Lt wr) (some ⟨gL, 0, none⟩) ls ∧ Hid ((ls.take i).all (fun l => l.all nameB) = true)) (fun n _ => 4 - (intOf n).toNat)
          case atStart => exact ⟨0, by omega, rfl, hBf, hrL, Lib.hid (by simp)⟩
          case round =>
            obtain ⟨i, hi, rfl, hB, hR, HA⟩ := hrel
            clear hBf hrL
            by_cases hlt : i < 4
            · have hil : i < ls.length := by rw [hL4.out]; exact hlt
              have hii : (i : Int) < 4 := by omega
              obtain ⟨b, off, A1, c1, hA, lb, y0, ⟨hq1, hq2⟩, hq⟩ := hR.elL hil
              simp only [Option.some.injEq, Addr.mk.injEq] at hA
              obtain ⟨rfl, rfl, _⟩ := hA
              rw [Nat.zero_add] at y0
              have HNO := Lib.hid fun (j : Nat) (hj : j < ls[i].length) (h : nameB ls[i][j] = false) => HC.out.trans (nmLs_name hil hj h)
              have HYE := Lib.hid fun h : ls[i].all nameB = true => all_take (p := fun l : List (List UInt8) => l.all nameB) hil HA.out h
              have hl3 := hbx0.out ls[i] (List.getElem_mem hil)
              clear HA
              generalize ls[i] = l at *
              go_wp2_with fail
              clear y0
              go_loopw [69] (fun n wr => ∃ j : Nat, j ≤ l.length ∧ n = .int .i64 j ∧ Below w.heap.size w wr ∧ RdS (cL cS) wr (Lt wr) (some ⟨gL, 0, none⟩) ls ∧ RdS cS wr (Lt wr) A1 l ∧ Hid ((l.take j).all nameB = true)) (fun n _ => l.length - (intOf n).toNat)
              case atStart => exact ⟨0, Nat.zero_le _, rfl, hB, hR, hq, Lib.hid (by simp)⟩
              case round =>
                obtain ⟨j, hj, rfl, hB2, hR2, hq2', HB⟩ := hrel
                clear hB hR hq
                by_cases hjl : j < l.length
                · have hji : (j : Int) < (l.length : Int) := by omega
                  obtain ⟨b, off, rfl, lb, ho, y0⟩ := hq2'.elS hjl
                  cases hn : nameB l[j] with
                  | false =>
                    have HX := Lib.hid (HNO.out j hjl hn)
                    have HN := Lib.hid fun W => nameC hn W ho
                    clear hn HNO HYE HB hR2 hq2'
                    generalize l[j] = s at *
                    go_wp2_with fail
                    refine (HN.out _).mono ?_
                    rintro e w5 ⟨rfl, hb5⟩
                    go_wp2_with fail
                    go_ret
                    exact ⟨ret_iL HX.out.symm, bel_then hB2 hB2.size hb5⟩
                  | true =>
                    have HT := Lib.hid (all_take (p := nameB) hjl HB.out hn)
                    have HN := Lib.hid fun W => nameC hn W ho
                    clear hn HB
                    generalize l[j] = s at *
                    go_wp2_with fail
                    refine (HN.out _).mono ?_
                    rintro e w5 ⟨rfl, hb5⟩
                    go_wp2_with fail
                    go_roundw
                    case rel => exact ⟨j + 1, by omega, by go_num, bel_then hB2 hB2.size hb5, hR2.now hb5, hq2'.now hb5, HT⟩
                    case measure => simp [intOf]; omega
                · have HT := Lib.hid (HYE.out (all_end hjl HB.out))
                  go_wp2_with fail
                  go_roundw
                  case rel => exact ⟨i + 1, by omega, by go_num, hB2, hR2, HT⟩
                  case measure => simp [intOf]; omega
            · have HAL := Lib.hid (all_end (l := ls) (p := fun l : List (List UInt8) => l.all nameB) (k := i) (by rw [hL4.out]; exact hlt) HA.out)
              have hsz1 := hB.size
              clear hi HA
              go_wp2_with fail
              go_loopw [80] (fun n wr => ∃ (i : Nat) (W : World), W = wr ∧ i ≤ 4 ∧ n = .int .i64 i ∧ Below w.heap.size w W ∧ RdS (cL cS) W (Lt W) (some ⟨gL, 0, none⟩) ls ∧ Hid ((ls.take i).all (fun l => decide l.Nodup) = true)) (fun n _ => 4 - (intOf n).toNat)
              case atStart => exact ⟨0, _, rfl, by omega, rfl, hB, hR, Lib.hid (by simp)⟩
              case round =>
                obtain ⟨i, W, rfl, hi, rfl, hB3, hR3, HA⟩ := hrel
                clear hB hR hsz1
                by_cases hlt : i < 4
                · have hil : i < ls.length := by rw [hL4.out]; exact hlt
                  have hii : (i : Int) < 4 := by omega
                  obtain ⟨b, off, A1, c1, hA, lb, y0, ⟨hq1, hq2⟩, hq⟩ := hR3.elL hil
                  simp only [Option.some.injEq, Addr.mk.injEq] at hA
                  obtain ⟨rfl, rfl, _⟩ := hA
                  rw [Nat.zero_add] at y0
                  have HNO := Lib.hid fun (j : Nat) (hj : j < ls[i].length) (h : ls[i][j] ∈ ls[i].take j) => HC.out.trans (nmLs_dup HAL.out hil hj h)
                  have HYE := Lib.hid fun h : ls[i].Nodup => all_take (p := fun l : List (List UInt8) => decide l.Nodup) hil HA.out (decide_eq_true h)
                  have hl3 := hbx0.out ls[i] (List.getElem_mem hil)
                  have hal := (Below.refl W.heap.size W).alloc (Nat.le_refl _) (.map #[] 0)
                  have hset := SetW.made W Tryz.prog 9 4 W.heap.size rfl
                  have hBm := bel_then hB3 hB3.size hal
                  have hsz3 := hB3.size
                  clear HA
                  generalize ls[i] = l at *
                  have hmm := @run_makeMap Tryz.prog
                  go_wp2_with fail
                  clear y0 hmm
                  go_loopw [87] (fun n wr => ∃ j : Nat, j ≤ l.length ∧ n = .int .i64 j ∧ Below w.heap.size w wr ∧ Below W.heap.size W wr ∧ SetW Tryz.prog 9 4 wr W.heap.size j ((l.take j).map Lit.string) ∧ Hid ((l.take j).Nodup)) (fun n _ => l.length - (intOf n).toNat)
                  case atStart => exact ⟨0, Nat.zero_le _, rfl, hBm, hal, hset, Lib.hid (by simp)⟩
                  case round =>
                    obtain ⟨j, hj, rfl, hB4, hB5, hst, HB⟩ := hrel
                    clear hBm hal hset
                    by_cases hjl : j < l.length
                    · have hji : (j : Int) < (l.length : Int) := by omega
                      obtain ⟨b, off, rfl, lb, ho, y0⟩ := (hq.now hB5).elS hjl
                      have hkey := Lib.hid (str_key l[j] ho)
                      have hany := any_str (l.take j) l[j]
                      cases hd : decide (l[j] ∈ l.take j) with
                      | true =>
                        have HX := Lib.hid (HNO.out j hjl (of_decide_eq_true hd))
                        have HAN := Lib.hid (hany.trans hd)
                        clear hd hany HNO HYE HB hR3 hq
                        generalize l[j] = s at *
                        generalize (l.take j).map Lit.string = ks at *
                        go_wp2_with (at_lookup; go_loud (refine wpList_look_setB _ rfl _ _ 94 rfl 9 4 strKey Tryz.underlying94 Tryz.underlying4 (zeroBool _) W.heap.size j ks rfl hst _ _ rfl hkey.out true HAN.out ?_))
                        go_ret
                        exact ⟨ret_iL HX.out.symm, hB4⟩
                      | false =>
                        have HT := Lib.hid (nodup_take hjl HB.out (of_decide_eq_false hd))
                        have HAN := Lib.hid (hany.trans hd)
                        have HKS : Hid ((l.take (j + 1)).map Lit.string = (l.take j).map Lit.string ++ [.string l[j]]) := Lib.hid (by rw [List.take_succ_eq_append_getElem hjl, List.map_append]; rfl)
                        clear hd hany HB
                        generalize l[j] = s at *
                        generalize (l.take j).map Lit.string = ks at *
                        go_wp2_with (first | (at_lookup; go_loud (refine wpList_look_setB _ rfl _ _ 94 rfl 9 4 strKey Tryz.underlying94 Tryz.underlying4 (zeroBool _) W.heap.size j ks rfl hst _ _ rfl hkey.out false HAN.out ?_)) | (at_mapUpdate; go_loud (refine wpList_put_set _ rfl _ _ _ 94 rfl 9 4 strKey Tryz.underlying94 Tryz.underlying4 W.heap.size j ks rfl hst (by unfold maxLen; omega) _ _ rfl rfl hkey.out ?_); intro w6 hst6 hgr6))
                        go_roundw
                        case rel => exact ⟨j + 1, by omega, by go_num, hB4.grown hgr6 hB4.size (fun k hk => by simp only [Option.some.injEq] at hk; omega), hB5.grown hgr6 hB5.size (fun k hk => by simp only [Option.some.injEq] at hk; omega), by rw [HKS.out]; exact hst6, HT⟩
                        case measure => simp [intOf]; omega
                    · have hnd := HB.out
                      rw [List.take_of_length_le (by omega)] at hnd
                      have HT := Lib.hid (HYE.out hnd)
                      clear hnd
                      go_wp2_with fail
                      go_roundw
                      case rel => exact ⟨i + 1, _, rfl, by omega, by go_num, hB4, hR3.now hB5, HT⟩
                      case measure => simp [intOf]; omega
                · have HX := Lib.hid (HC.out.trans (nmLs_ok HAL.out (all_end (l := ls) (p := fun l : List (List UInt8) => decide l.Nodup) (k := i) (by rw [hL4.out]; exact hlt) HA.out)))
                  go_wp2_with fail
                  go_ret
                  exact ⟨ret_iL HX.out.symm, hB3⟩
end Go.Proofs.YtopoknocfoiiaaaGreatDoor
