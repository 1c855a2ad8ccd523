/- The walk of joinEnds. -/
import Derived.Test.YtopoknocfoiiaaaGreatDoorPlBals
import Derived.Test.YtopoknocfoiiaaaGreatDoorPlTxt
namespace Go.Proofs.YtopoknocfoiiaaaGreatDoor
set_option linter.unusedVariables false
set_option linter.unusedSimpArgs false
open Go.RowKit
open Go.Maps (Keyed)
attribute [local go_sem] bs_size bs_get bs_append bs_extract bs_toList
attribute [-go_sem] run_equalIn_agg
/-! ### The table that the joints make -/
theorem joinedF_mem : ∀ {js : List Jnt} {e : End2}, (joinedF js e).isSome = decide (e ∈ endsL js)
  | [], e => by simp [joinedF, endsL]
  | j :: r, e => by
    have ih := joinedF_mem (js := r) (e := e)
    have he : endsL (j :: r) = j.a :: j.b :: endsL r := by simp [endsL]
    unfold joinedF
    rw [he]
    by_cases h1 : j.a = e
    · simp [h1]
    · by_cases h2 : j.b = e
      · simp [h1, h2]
      · rw [if_neg h1, if_neg h2, ih]
        have h1' : ¬ e = j.a := fun h => h1 h.symm
        have h2' : ¬ e = j.b := fun h => h2 h.symm
        simp [h1', h2']
theorem joinedF_snoc : ∀ (js : List Jnt) (j : Jnt) (e : End2), joinedF (js ++ [j]) e = (joinedF js e).or (if j.a = e then some j.b else if j.b = e then some j.a else none)
  | [], j, e => by simp [joinedF]
  | x :: r, j, e => by
    rw [List.cons_append, joinedF, joinedF, joinedF_snoc r j e]
    split
    · simp
    · split
      · simp
      · rfl
theorem endsL_snoc (js : List Jnt) (j : Jnt) : endsL (js ++ [j]) = endsL js ++ [j.a, j.b] := by simp [endsL]
theorem up_ab {js : List Jnt} {j : Jnt} (ha : (joinedF js j.a).isSome = false) (hb : (joinedF js j.b).isSome = false) (hne : j.a ≠ j.b) (e : End2) : upE (upE (joinedF js) j.a j.b) j.b j.a e = joinedF (js ++ [j]) e := by
  rw [joinedF_snoc]
  unfold upE
  by_cases h2 : e = j.b
  · subst h2
    have : joinedF js j.b = none := by simpa using hb
    rw [if_pos rfl, this, if_neg hne]
    simp
  · rw [if_neg h2]
    by_cases h1 : e = j.a
    · subst h1
      have : joinedF js j.a = none := by simpa using ha
      rw [if_pos rfl, this]
      simp
    · rw [if_neg h1, if_neg (fun h => h1 h.symm), if_neg (fun h => h2 h.symm)]
      simp
theorem up_ba {js : List Jnt} {j : Jnt} (ha : (joinedF js j.a).isSome = false) (hb : (joinedF js j.b).isSome = false) (hne : j.a ≠ j.b) (e : End2) : upE (upE (joinedF js) j.b j.a) j.a j.b e = joinedF (js ++ [j]) e := by
  rw [← up_ab ha hb hne]
  unfold upE
  by_cases h1 : e = j.a
  · subst h1
    simp [hne]
  · simp [h1]
theorem ends_take {l : List Jnt} {k : Nat} (h : k < l.length) : endsL (l.take (k + 1)) = endsL (l.take k) ++ [l[k].a, l[k].b] := by
  rw [List.take_succ_eq_append_getElem h, endsL_snoc]
theorem ends_nodup {l : List Jnt} {k : Nat} (h : k < l.length) (hn : (endsL (l.take k)).Nodup) (ha : (joinedF (l.take k) l[k].a).isSome = false) (hb : (joinedF (l.take k) l[k].b).isSome = false) (hne : l[k].a ≠ l[k].b) : (endsL (l.take (k + 1))).Nodup := by
  rw [joinedF_mem, decide_eq_false_iff_not] at ha hb
  rw [ends_take h, List.nodup_append]
  refine ⟨hn, by simp [hne], fun x hx y hy => ?_⟩
  simp only [List.mem_cons, List.not_mem_nil, or_false] at hy
  rcases hy with rfl | rfl
  · exact fun e => ha (e ▸ hx)
  · exact fun e => hb (e ▸ hx)
theorem ends_sub {l : List Jnt} (k : Nat) : (endsL (l.take k)).Sublist (endsL l) := by
  conv => rhs; rw [← List.take_append_drop k l]
  unfold endsL
  rw [List.flatMap_append]
  exact List.sublist_append_left _ _
theorem ends_dup {l : List Jnt} {k : Nat} (h : k < l.length) (hd : (joinedF (l.take k) l[k].a).isSome = true ∨ (joinedF (l.take k) l[k].b).isSome = true) : ¬ (endsL l).Nodup := by
  intro hn
  have h2 := List.Pairwise.sublist (ends_sub (l := l) (k + 1)) hn
  rw [ends_take h] at h2
  have h3 := (List.pairwise_append.1 h2).2.2
  rw [joinedF_mem, joinedF_mem, decide_eq_true_eq, decide_eq_true_eq] at hd
  rcases hd with hd | hd
  · exact h3 _ hd l[k].a (by simp) rfl
  · exact h3 _ hd l[k].b (by simp) rfl
theorem jnC_no {l : Lay} (h : l.jts.all (jntB l) = false) : jnC l = 1 := by unfold jnC; rw [if_pos h]
theorem jnC_dup {l : Lay} (h : l.jts.all (jntB l) = true) (hd : ¬ (endsL l.jts).Nodup) : jnC l = 8 := by unfold jnC; rw [if_neg (by rw [h]; simp), if_pos (decide_eq_false hd)]
theorem jnC_yes {l : Lay} (h : l.jts.all (jntB l) = true) (hd : (endsL l.jts).Nodup) : jnC l = 0 := by unfold jnC; rw [if_neg (by rw [h]; simp), if_neg (by simp [hd])]
theorem jntB_no1 {l : Lay} {j : Jnt} (h : exB l j.a = false) : jntB l j = false := by unfold jntB; rw [h]; rfl
theorem jntB_no2 {l : Lay} {j : Jnt} (h : exB l j.b = false) : jntB l j = false := by unfold jntB; rw [h]; simp
theorem jntB_no3 {l : Lay} {j : Jnt} (h : decide (j.a = j.b) = true) : jntB l j = false := by unfold jntB; simp at h; simp [h]
theorem jntB_yes {l : Lay} {j : Jnt} (h1 : exB l j.a = true) (h2 : exB l j.b = true) (h : decide (j.a = j.b) = false) : jntB l j = true := by unfold jntB; simp at h; simp [h, h1, h2]
theorem EndsW.put {w : World} {b n : Nat} {f : End2 → Option End2} (h : EndsW w b n f) (hn : n < maxLen) (e g : End2) (he : endO e) : ∃ w', (Instr.mapUpdate 62 (.map (some b)) (.agg #[.int .i64 e.el, .int .i64 e.sd]) (.agg #[.int .i64 g.el, .int .i64 g.sd])).run Tryz.prog w = .ok () w' ∧ EndsW w' b (n + 1) (upE f e g) ∧ w.grownBy w' (some b) := by
  obtain ⟨D, h1, h2, h3⟩ := h
  obtain ⟨w', h4, h5, h6⟩ := h1.update endLaw Tryz.underlying62 hn (end_key e he) (endE_mk g)
  refine ⟨w', h4, ⟨_, h5, h2.put _ _, fun e' he' => ?_⟩, h6⟩
  unfold upE
  by_cases h : e' = e
  · subst h
    rw [if_pos rfl]
    refine ⟨Maps.has_put_same h2 (endLaw.key (end_key e' he)) _, fun g' hg' z => ?_⟩
    simp only [Option.some.injEq] at hg'
    subst hg'
    exact Maps.atKey_put_same h2 (endLaw.key (end_key e' he)) _ _
  · rw [if_neg h]
    have hne : endK e' ≠ endK e := fun hk => h (endK_inj he' he hk)
    obtain ⟨h7, h8⟩ := h3 e' he'
    exact ⟨(Maps.has_put_other hne _).trans h7, fun g' hg' z => (Maps.atKey_put_other hne _ _).trans (h8 g' hg' z)⟩
theorem wpList_look_endsB (w : World) {ops : Array Oper} {rest : List Oper} {o : Oper} {a : Act} {Q : Exit → Act → World → Prop} (hg : o.guard = none) (m x : Operand) (t : TypeId) (hop : o.op = Op.lookup t m x true) (ht : Tryz.prog.underlying t = some (.map 37 37))
    (b n : Nat) (f : End2 → Option End2) (hm : a.eval m = .map (some b)) (hown : EndsW w b n f) (e : End2) (he : endO e) (hx : a.eval x = .agg #[.int .i64 e.el, .int .i64 e.sd]) (g : End2) (hgg : (f e).getD ⟨0, 0⟩ = g) (c : Bool) (hc : (f e).isSome = c)
    (hK : wpList Tryz.prog ops Q rest (a.put o.dst (.tuple #[.agg #[.int .i64 g.el, .int .i64 g.sd], .bool c])) w) : wpList Tryz.prog ops Q (o :: rest) a w := by
  subst hgg; subst hc
  exact wpList_look_ends w hg m x t hop ht b n f hm hown e he hx hK
theorem EndsW.kept {w : World} {b n : Nat} {f : End2 → Option End2} (h : EndsW w b n f) {n' : Nat} (hn : n ≤ n') : EndsW w b n' f := by
  obtain ⟨D, h1, h2⟩ := h
  exact ⟨D, h1.mono hn, h2⟩
def JoinPost (w : World) (l : Lay) (e : Ending) (w' : World) : Prop := (jnC l ≠ 0 ∧ e = .returned (.tuple #[.map none, .int .i64 (jnC l)]) ∧ Below w.heap.size w w') ∨ (jnC l = 0 ∧ ∃ B n, e = .returned (.tuple #[.map (some B), .int .i64 0]) ∧ EndsW w' B n (joinedF l.jts) ∧ Below w.heap.size w w')
theorem ret_t2 {a : Value} {x y : Int} (h : x = y) : Ending.returned (.tuple #[a, .int .i64 x]) = .returned (.tuple #[a, .int .i64 y]) := by rw [h]
set_option maxRecDepth 100000 in
set_option maxHeartbeats 16000000 in
theorem joinEnds_any (v : LV) (w : World) (E : EnvS w) (hr : LvR w v) (hm3 : v.l.jts.length ≤ 100000) : Calls Tryz.prog 29 #[lvA v] w (JoinPost w v.l) := by
  have hbx := Bx.new hr
  unfold lvA
  go_enter Tryz.func29, Tryz.ntmps29
  go_wp2_with fail
  go_loopw [16] (fun n wr => ∃ k : Nat, k ≤ v.l.jts.length ∧ n = .int .i64 k ∧ Bx w wr v ∧ Hid ((v.l.jts.take k).all (jntB v.l) = true)) (fun n _ => v.l.jts.length - (intOf n).toNat)
  case atStart => exact ⟨0, Nat.zero_le _, rfl, hbx, Lib.hid (by simp)⟩
  case round =>
    obtain ⟨k, hk, rfl, hb, HK⟩ := hrel
    clear hbx
    by_cases hlt : k < v.l.jts.length
    · have hki : (k : Int) < (v.l.jts.length : Int) := by omega
      obtain ⟨b, off, hA, lb, ho, y0, y1, y2, y3⟩ := hb.rd.r3.elJ hlt
      have hba := hb.alloc (.cells #[.int .i64 v.l.jts[k].a.el, .int .i64 v.l.jts[k].a.sd, .int .i64 v.l.jts[k].b.el, .int .i64 v.l.jts[k].b.sd] 39)
      have hjb : Blk (wr.alloc (.cells #[.int .i64 v.l.jts[k].a.el, .int .i64 v.l.jts[k].a.sd, .int .i64 v.l.jts[k].b.el, .int .i64 v.l.jts[k].b.sd] 39)) wr.heap.size 39 #[.int .i64 v.l.jts[k].a.el, .int .i64 v.l.jts[k].a.sd, .int .i64 v.l.jts[k].b.el, .int .i64 v.l.jts[k].b.sd] := Blk.new _ _ _ _ rfl
      have x0 := hba.x0
      have x1 := hba.x1
      have x2 := hba.x2
      have x3 := hba.x3
      have x4 := hba.x4
      have x5 := hba.x5
      have HNO := Lib.hid fun h : jntB v.l v.l.jts[k] = false => jnC_no (all_no (p := jntB v.l) hlt h)
      have HYE := Lib.hid fun h : jntB v.l v.l.jts[k] = true => all_take (p := jntB v.l) hlt HK.out h
      have HQ := Lib.hid fun W => eq_end W 9998 v.l.jts[k].a v.l.jts[k].b
      have E1 := E.now hba.bel
      have HA3 := Lib.hid hA
      have HE := Lib.hid fun (e : End2) W E h => exists_any v e W E h
      unfold lvA at HE
      rw [hA] at x3 HE ⊢
      have hq0 := HQ.out
      cases ca : exB v.l v.l.jts[k].a with
      | false =>
        have HX := Lib.hid (HNO.out (jntB_no1 ca))
        have HE1 := Lib.hid fun W E h => (HE.out v.l.jts[k].a W E h)
        rw [ca] at HE1
        clear hA ho HK HNO HYE ca HE hq0 HQ
        generalize v.l.jts[k] = q at *
        go_wp2_with fail
        refine (HE1.out _ E1 hba.rd).mono ?_
        rintro e w5 ⟨rfl, hb5⟩
        have hB5 := (hba.now hb5).bel
        clear x0 x1 x2 x3 x4 x5 hba hjb
        go_wp2_with fail
        go_ret2
        exact Or.inl ⟨by rw [HX.out]; decide, ret_t2 HX.out.symm, hB5⟩
      | true =>
        have HE1 := Lib.hid fun W E h => (HE.out v.l.jts[k].a W E h)
        have HE2 := Lib.hid fun W E h => (HE.out v.l.jts[k].b W E h)
        rw [ca] at HE1
        cases cb : exB v.l v.l.jts[k].b with
        | false =>
          have HX := Lib.hid (HNO.out (jntB_no2 cb))
          rw [cb] at HE2
          clear hA ho HK HNO HYE ca cb HE hq0 HQ
          generalize v.l.jts[k] = q at *
          go_wp2_with fail
          refine (HE1.out _ E1 hba.rd).mono ?_
          rintro e w5 ⟨rfl, hb5⟩
          have hb5x := hba.now hb5
          have hj5 := hjb.now hb5
          have E5 := E1.now hb5
          clear x0 x1 x2 x3 x4 x5 hba hjb
          have x0 := hb5x.x0
          have x1 := hb5x.x1
          have x2 := hb5x.x2
          have x3 := hb5x.x3
          have x4 := hb5x.x4
          have x5 := hb5x.x5
          have z2 : w5.cell? ⟨wr.heap.size, 2, none⟩ = some (.int .i64 q.b.el) := hj5.cell 2
          have z3 : w5.cell? ⟨wr.heap.size, 3, none⟩ = some (.int .i64 q.b.sd) := hj5.cell 3
          rw [HA3.out] at x3
          go_wp2_with fail
          refine (HE2.out _ E5 hb5x.rd).mono ?_
          rintro e w6 ⟨rfl, hb6⟩
          have hB6 := (hb5x.now hb6).bel
          clear x0 x1 x2 x3 x4 x5 hb5x hj5 z2 z3
          go_wp2_with fail
          go_ret2
          exact Or.inl ⟨by rw [HX.out]; decide, ret_t2 HX.out.symm, hB6⟩
        | true =>
          rw [cb] at HE2
          cases cq : decide (v.l.jts[k].a = v.l.jts[k].b) with
          | true =>
            have HX := Lib.hid (HNO.out (jntB_no3 cq))
            rw [cq] at hq0
            clear hA ho HK HNO HYE ca cb HE HQ cq
            generalize v.l.jts[k] = q at *
            go_wp2_with fail
            refine (HE1.out _ E1 hba.rd).mono ?_
            rintro e w5 ⟨rfl, hb5⟩
            have hb5x := hba.now hb5
            have hj5 := hjb.now hb5
            have E5 := E1.now hb5
            clear x0 x1 x2 x3 x4 x5 hba hjb
            have x0 := hb5x.x0
            have x1 := hb5x.x1
            have x2 := hb5x.x2
            have x3 := hb5x.x3
            have x4 := hb5x.x4
            have x5 := hb5x.x5
            have z2 : w5.cell? ⟨wr.heap.size, 2, none⟩ = some (.int .i64 q.b.el) := hj5.cell 2
            have z3 : w5.cell? ⟨wr.heap.size, 3, none⟩ = some (.int .i64 q.b.sd) := hj5.cell 3
            rw [HA3.out] at x3
            go_wp2_with fail
            refine (HE2.out _ E5 hb5x.rd).mono ?_
            rintro e w6 ⟨rfl, hb6⟩
            have hB6 := (hb5x.now hb6).bel
            have hj6 := hj5.now hb6
            clear x0 x1 x2 x3 x4 x5 hb5x hj5 z2 z3
            have z0 : w6.cell? ⟨wr.heap.size, 0, none⟩ = some (.int .i64 q.a.el) := hj6.cell 0
            have z1 : w6.cell? ⟨wr.heap.size, 1, none⟩ = some (.int .i64 q.a.sd) := hj6.cell 1
            have z2 : w6.cell? ⟨wr.heap.size, 2, none⟩ = some (.int .i64 q.b.el) := hj6.cell 2
            have z3 : w6.cell? ⟨wr.heap.size, 3, none⟩ = some (.int .i64 q.b.sd) := hj6.cell 3
            go_wp2_with fail
            go_ret2
            exact Or.inl ⟨by rw [HX.out]; decide, ret_t2 HX.out.symm, hB6⟩
          | false =>
            have HX := Lib.hid (HYE.out (jntB_yes ca cb cq))
            rw [cq] at hq0
            clear hA ho HK HNO HYE ca cb HE HQ cq
            generalize v.l.jts[k] = q at *
            go_wp2_with fail
            refine (HE1.out _ E1 hba.rd).mono ?_
            rintro e w5 ⟨rfl, hb5⟩
            have hb5x := hba.now hb5
            have hj5 := hjb.now hb5
            have E5 := E1.now hb5
            clear x0 x1 x2 x3 x4 x5 hba hjb
            have x0 := hb5x.x0
            have x1 := hb5x.x1
            have x2 := hb5x.x2
            have x3 := hb5x.x3
            have x4 := hb5x.x4
            have x5 := hb5x.x5
            have z2 : w5.cell? ⟨wr.heap.size, 2, none⟩ = some (.int .i64 q.b.el) := hj5.cell 2
            have z3 : w5.cell? ⟨wr.heap.size, 3, none⟩ = some (.int .i64 q.b.sd) := hj5.cell 3
            rw [HA3.out] at x3
            go_wp2_with fail
            refine (HE2.out _ E5 hb5x.rd).mono ?_
            rintro e w6 ⟨rfl, hb6⟩
            have hb6x := hb5x.now hb6
            have hj6 := hj5.now hb6
            clear x0 x1 x2 x3 x4 x5 hb5x hj5 z2 z3
            have z0 : w6.cell? ⟨wr.heap.size, 0, none⟩ = some (.int .i64 q.a.el) := hj6.cell 0
            have z1 : w6.cell? ⟨wr.heap.size, 1, none⟩ = some (.int .i64 q.a.sd) := hj6.cell 1
            have z2 : w6.cell? ⟨wr.heap.size, 2, none⟩ = some (.int .i64 q.b.el) := hj6.cell 2
            have z3 : w6.cell? ⟨wr.heap.size, 3, none⟩ = some (.int .i64 q.b.sd) := hj6.cell 3
            go_wp2_with fail
            go_roundw
            case rel => exact ⟨k + 1, by omega, by go_num, hb6x, HX⟩
            case measure => simp [intOf]; omega
    · have HAL := Lib.hid (all_end hlt HK.out)
      have hmm := @run_makeMap Tryz.prog
      have x3 := hb.x3
      have hltb := hb.lt
      have hbm := hb.alloc (.map #[] 0)
      have x3' := hbm.x3
      have hset := EndsW.made wr wr.heap.size rfl
      have HDU := Lib.hid fun h : ¬ (endsL v.l.jts).Nodup => jnC_dup HAL.out h
      have HDO := Lib.hid fun h : (endsL v.l.jts).Nodup => jnC_yes HAL.out h
      clear HK hb
      go_wp2_with fail
      clear hmm x3 x3'
      obtain ⟨B, hB⟩ : ∃ B, B = wr.heap.size := ⟨_, rfl⟩
      rw [← hB] at hset hltb ⊢
      clear hB
      go_loopw [44] (fun n wr => ∃ k : Nat, k ≤ v.l.jts.length ∧ n = .int .i64 k ∧ Bx w wr v ∧ EndsW wr B (2 * k) (joinedF (v.l.jts.take k)) ∧ Hid ((endsL (v.l.jts.take k)).Nodup)) (fun n _ => v.l.jts.length - (intOf n).toNat)
      case atStart => exact ⟨0, Nat.zero_le _, rfl, hbm, hset, Lib.hid (by simp [endsL])⟩
      case round =>
        obtain ⟨k, hk, rfl, hb, hst, HB⟩ := hrel
        clear hbm hset
        by_cases hlt : k < v.l.jts.length
        · have hki : (k : Int) < (v.l.jts.length : Int) := by omega
          obtain ⟨b, off, hA, lb, ho, y0, y1, y2, y3⟩ := hb.rd.r3.elJ hlt
          have hjn := jntB_iff (List.all_eq_true.1 HAL.out v.l.jts[k] (List.getElem_mem hlt))
          have HNE := Lib.hid hjn.2.2
          obtain ⟨hoa, hob⟩ := ho
          have HTK : Hid (v.l.jts.take (k + 1) = v.l.jts.take k ++ [v.l.jts[k]]) := Lib.hid (List.take_succ_eq_append_getElem hlt)
          have HD1 := Lib.hid fun h : (joinedF (v.l.jts.take k) v.l.jts[k].a).isSome = true => HDU.out (ends_dup hlt (Or.inl h))
          have HD2 := Lib.hid fun h : (joinedF (v.l.jts.take k) v.l.jts[k].b).isSome = true => HDU.out (ends_dup hlt (Or.inr h))
          have HND := Lib.hid fun (h1 : (joinedF (v.l.jts.take k) v.l.jts[k].a).isSome = false) (h2 : (joinedF (v.l.jts.take k) v.l.jts[k].b).isSome = false) => ends_nodup hlt HB.out h1 h2 hjn.2.2
          have hba := hb.alloc (.cells #[.int .i64 v.l.jts[k].a.el, .int .i64 v.l.jts[k].a.sd, .int .i64 v.l.jts[k].b.el, .int .i64 v.l.jts[k].b.sd] 39)
          have hsta := hst.alloc (.cells #[.int .i64 v.l.jts[k].a.el, .int .i64 v.l.jts[k].a.sd, .int .i64 v.l.jts[k].b.el, .int .i64 v.l.jts[k].b.sd] 39)
          have hjb : Blk (wr.alloc (.cells #[.int .i64 v.l.jts[k].a.el, .int .i64 v.l.jts[k].a.sd, .int .i64 v.l.jts[k].b.el, .int .i64 v.l.jts[k].b.sd] 39)) wr.heap.size 39 #[.int .i64 v.l.jts[k].a.el, .int .i64 v.l.jts[k].a.sd, .int .i64 v.l.jts[k].b.el, .int .i64 v.l.jts[k].b.sd] := Blk.new _ _ _ _ rfl
          have hBlt := hst.lt
          rw [hA]
          obtain ⟨ga, hga⟩ : ∃ g, (joinedF (v.l.jts.take k) v.l.jts[k].a).getD ⟨0, 0⟩ = g := ⟨_, rfl⟩
          obtain ⟨gb, hgb⟩ : ∃ g, (joinedF (v.l.jts.take k) v.l.jts[k].b).getD ⟨0, 0⟩ = g := ⟨_, rfl⟩
          have HGA := Lib.hid hga
          have HGB := Lib.hid hgb
          have hal1 := hba.alloc (.cells #[.int .i64 ga.el, .int .i64 ga.sd] 37)
          have hst1 := hsta.alloc (.cells #[.int .i64 ga.el, .int .i64 ga.sd] 37)
          have hjb1 := hjb.alloc (.cells #[.int .i64 ga.el, .int .i64 ga.sd] 37)
          have hal2 := hal1.alloc (.cells #[.int .i64 gb.el, .int .i64 gb.sd] 37)
          have hst2 := hst1.alloc (.cells #[.int .i64 gb.el, .int .i64 gb.sd] 37)
          have hjb2 := hjb1.alloc (.cells #[.int .i64 gb.el, .int .i64 gb.sd] 37)
          clear hA hga hgb hjn HB
          cases ca : (joinedF (v.l.jts.take k) v.l.jts[k].a).isSome with
          | true =>
            have HX := Lib.hid (HD1.out ca)
            have HCA := Lib.hid ca
            obtain ⟨cb, hcb⟩ : ∃ c, (joinedF (v.l.jts.take k) v.l.jts[k].b).isSome = c := ⟨_, rfl⟩
            have HCB := Lib.hid hcb
            clear ca hcb HND HD1 HD2 HTK
            generalize v.l.jts[k] = q at *
            generalize v.l.jts.take k = js at *
            go_wp2_with (first | (at_lookup; refine wpList_look_endsB _ rfl _ _ 62 rfl Tryz.underlying62 B (2 * k) (joinedF js) rfl hsta q.a hoa rfl ga HGA.out true HCA.out ?_) | (at_lookup; refine wpList_look_endsB _ rfl _ _ 62 rfl Tryz.underlying62 B (2 * k) (joinedF js) rfl hst1 q.b hob rfl gb HGB.out cb HCB.out ?_))
            go_ret2
            exact Or.inl ⟨by rw [HX.out]; decide, ret_t2 HX.out.symm, hal2.bel⟩
          | false =>
            have HCA := Lib.hid ca
            cases cb : (joinedF (v.l.jts.take k) v.l.jts[k].b).isSome with
            | true =>
              have HX := Lib.hid (HD2.out cb)
              have HCB := Lib.hid cb
              clear ca cb HND HD1 HD2 HTK
              generalize v.l.jts[k] = q at *
              generalize v.l.jts.take k = js at *
              go_wp2_with (first | (at_lookup; refine wpList_look_endsB _ rfl _ _ 62 rfl Tryz.underlying62 B (2 * k) (joinedF js) rfl hsta q.a hoa rfl ga HGA.out false HCA.out ?_) | (at_lookup; refine wpList_look_endsB _ rfl _ _ 62 rfl Tryz.underlying62 B (2 * k) (joinedF js) rfl hst1 q.b hob rfl gb HGB.out true HCB.out ?_))
              go_ret2
              exact Or.inl ⟨by rw [HX.out]; decide, ret_t2 HX.out.symm, hal2.bel⟩
            | false =>
              have HX := Lib.hid (HND.out ca cb)
              have HCB := Lib.hid cb
              have HUA : Hid (∀ e, upE (upE (joinedF (v.l.jts.take k)) v.l.jts[k].a v.l.jts[k].b) v.l.jts[k].b v.l.jts[k].a e = joinedF (v.l.jts.take (k + 1)) e) := Lib.hid fun e => (up_ab ca cb HNE.out e).trans (by rw [HTK.out])
              have HUB : Hid (∀ e, upE (upE (joinedF (v.l.jts.take k)) v.l.jts[k].b v.l.jts[k].a) v.l.jts[k].a v.l.jts[k].b e = joinedF (v.l.jts.take (k + 1)) e) := Lib.hid fun e => (up_ba ca cb HNE.out e).trans (by rw [HTK.out])
              obtain ⟨js', hjs'⟩ : ∃ js', v.l.jts.take (k + 1) = js' := ⟨_, rfl⟩
              rw [hjs'] at HUA HUB
              have HJS := Lib.hid hjs'
              clear ca cb HND HD1 HD2 HTK hjs'
              generalize v.l.jts[k] = q at *
              generalize v.l.jts.take k = js at *
              go_wp2_with (first | (at_lookup; refine wpList_look_endsB _ rfl _ _ 62 rfl Tryz.underlying62 B (2 * k) (joinedF js) rfl hsta q.a hoa rfl ga HGA.out false HCA.out ?_) | (at_lookup; refine wpList_look_endsB _ rfl _ _ 62 rfl Tryz.underlying62 B (2 * k) (joinedF js) rfl hst1 q.b hob rfl gb HGB.out false HCB.out ?_))
              obtain ⟨W, hW⟩ : ∃ W, ((wr.alloc (.cells #[.int .i64 q.a.el, .int .i64 q.a.sd, .int .i64 q.b.el, .int .i64 q.b.sd] 39)).alloc (.cells #[.int .i64 ga.el, .int .i64 ga.sd] 37)).alloc (.cells #[.int .i64 gb.el, .int .i64 gb.sd] 37) = W := ⟨_, rfl⟩
              rw [hW] at hal2 hst2 hjb2 ⊢
              clear hW hal1 hst1 hjb1 hba hsta hjb y0 y1 y2 y3 hb hst
              have hst3 := hst2.drew
              have hal3 := hal2.drew
              have hjb3 := hjb2.drew
              obtain ⟨w6, r6, h6, g6⟩ := hst3.put (by unfold maxLen; omega) q.a q.b hoa
              obtain ⟨w7, r7, h7, g7⟩ := h6.put (by unfold maxLen; omega) q.b q.a hob
              obtain ⟨w8, r8, h8, g8⟩ := hst3.put (by unfold maxLen; omega) q.b q.a hob
              obtain ⟨w9, r9, h9, g9⟩ := h8.put (by unfold maxLen; omega) q.a q.b hoa
              have hBj : wr.heap.size ≠ B := by omega
              have j6 : Blk w6 wr.heap.size 39 #[.int .i64 q.a.el, .int .i64 q.a.sd, .int .i64 q.b.el, .int .i64 q.b.sd] := (g6.block _ hjb3.lt (by simpa using hBj)).trans hjb3
              have j7 : Blk w7 wr.heap.size 39 #[.int .i64 q.a.el, .int .i64 q.a.sd, .int .i64 q.b.el, .int .i64 q.b.sd] := (g7.block _ j6.lt (by simpa using hBj)).trans j6
              have j8 : Blk w8 wr.heap.size 39 #[.int .i64 q.a.el, .int .i64 q.a.sd, .int .i64 q.b.el, .int .i64 q.b.sd] := (g8.block _ hjb3.lt (by simpa using hBj)).trans hjb3
              have j9 : Blk w9 wr.heap.size 39 #[.int .i64 q.a.el, .int .i64 q.a.sd, .int .i64 q.b.el, .int .i64 q.b.sd] := (g9.block _ j8.lt (by simpa using hBj)).trans j8
              have b6 := hal3.grown hr g6 (by omega)
              have b7 := b6.grown hr g7 (by omega)
              have b8 := hal3.grown hr g8 (by omega)
              have b9 := b8.grown hr g9 (by omega)
              have q6 : w6.cell? ⟨wr.heap.size, 0, none⟩ = some (.int .i64 q.a.el) ∧ w6.cell? ⟨wr.heap.size, 1, none⟩ = some (.int .i64 q.a.sd) ∧ w6.cell? ⟨wr.heap.size, 2, none⟩ = some (.int .i64 q.b.el) ∧ w6.cell? ⟨wr.heap.size, 3, none⟩ = some (.int .i64 q.b.sd) := ⟨j6.cell 0, j6.cell 1, j6.cell 2, j6.cell 3⟩
              have q7 : w7.cell? ⟨wr.heap.size, 0, none⟩ = some (.int .i64 q.a.el) ∧ w7.cell? ⟨wr.heap.size, 1, none⟩ = some (.int .i64 q.a.sd) ∧ w7.cell? ⟨wr.heap.size, 2, none⟩ = some (.int .i64 q.b.el) ∧ w7.cell? ⟨wr.heap.size, 3, none⟩ = some (.int .i64 q.b.sd) := ⟨j7.cell 0, j7.cell 1, j7.cell 2, j7.cell 3⟩
              have q8 : w8.cell? ⟨wr.heap.size, 0, none⟩ = some (.int .i64 q.a.el) ∧ w8.cell? ⟨wr.heap.size, 1, none⟩ = some (.int .i64 q.a.sd) ∧ w8.cell? ⟨wr.heap.size, 2, none⟩ = some (.int .i64 q.b.el) ∧ w8.cell? ⟨wr.heap.size, 3, none⟩ = some (.int .i64 q.b.sd) := ⟨j8.cell 0, j8.cell 1, j8.cell 2, j8.cell 3⟩
              have q9 : w9.cell? ⟨wr.heap.size, 0, none⟩ = some (.int .i64 q.a.el) ∧ w9.cell? ⟨wr.heap.size, 1, none⟩ = some (.int .i64 q.a.sd) ∧ w9.cell? ⟨wr.heap.size, 2, none⟩ = some (.int .i64 q.b.el) ∧ w9.cell? ⟨wr.heap.size, 3, none⟩ = some (.int .i64 q.b.sd) := ⟨j9.cell 0, j9.cell 1, j9.cell 2, j9.cell 3⟩
              have q5 : W.drew.cell? ⟨wr.heap.size, 0, none⟩ = some (.int .i64 q.a.el) ∧ W.drew.cell? ⟨wr.heap.size, 1, none⟩ = some (.int .i64 q.a.sd) ∧ W.drew.cell? ⟨wr.heap.size, 2, none⟩ = some (.int .i64 q.b.el) ∧ W.drew.cell? ⟨wr.heap.size, 3, none⟩ = some (.int .i64 q.b.sd) := ⟨hjb3.cell 0, hjb3.cell 1, hjb3.cell 2, hjb3.cell 3⟩
              have e7 := h7.ext HUA.out
              have e9 := h9.ext HUB.out
              clear h6 h7 h8 h9 g6 g7 g8 g9 j6 j7 j8 j9 b6 b8 hst2 hst3 hal2 hal3 hjb2 hjb3
              have E7 := Lib.hid e7
              have E9 := Lib.hid e9
              have B7 := Lib.hid b7
              have B9 := Lib.hid b9
              clear e7 e9 b7 b9
              go_region_held3 (fun w' => w'.cell? ⟨wr.heap.size, 0, none⟩ = some (.int .i64 q.a.el) ∧ w'.cell? ⟨wr.heap.size, 1, none⟩ = some (.int .i64 q.a.sd) ∧ w'.cell? ⟨wr.heap.size, 2, none⟩ = some (.int .i64 q.b.el) ∧ w'.cell? ⟨wr.heap.size, 3, none⟩ = some (.int .i64 q.b.sd)) (first | assumption) (fail)
              all_goals (go_wp2_with fail)
              all_goals go_roundw
              case rel => first
                | exact ⟨k + 1, by omega, by go_num, B7.out, by rw [HJS.out]; exact E7.out.kept (by omega), HX⟩
                | exact ⟨k + 1, by omega, by go_num, B9.out, by rw [HJS.out]; exact E9.out.kept (by omega), HX⟩
              case measure => simp [intOf]; omega
        · have HX := Lib.hid (HDO.out (by
            have h := HB.out
            rwa [List.take_of_length_le (by omega)] at h))
          have hst' : EndsW wr B (2 * k) (joinedF v.l.jts) := by
            rw [List.take_of_length_le (by omega)] at hst; exact hst
          go_wp2_with fail
          go_ret2
          exact Or.inr ⟨HX.out, B, 2 * k, rfl, hst', hb.bel⟩
end Go.Proofs.YtopoknocfoiiaaaGreatDoor
