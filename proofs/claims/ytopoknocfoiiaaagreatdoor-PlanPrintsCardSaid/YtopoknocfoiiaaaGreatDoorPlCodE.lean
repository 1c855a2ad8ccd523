/- The arguments of the layout's laws opened. Elements, joints, signals and balises compared. -/
import Derived.Test.YtopoknocfoiiaaaGreatDoorPlCod
namespace Go.Proofs.YtopoknocfoiiaaaGreatDoor
set_option linter.unusedVariables false
set_option linter.unusedSimpArgs false
open Go.RowKit
section
variable {P : Program} {t : TypeId}
/-- A codec from another. -/
theorem opens_to {α β : Type} {c : Cod α} {d : Cod β} (h : Opens P t c) (hs : c.size = d.size) (hr : ∀ (w : World) (S : Nat → Prop) (cs : List Value) (a : α), c.rd w S cs a → c.fit a → ∃ b, d.rd w S cs b ∧ d.fit b) : Opens P t d :=
  ⟨h.size.trans hs, fun hx hf => by obtain ⟨a, ha, hfa⟩ := h.opens hx hf; exact hr _ _ _ _ ha hfa⟩
end
theorem opens_elt : Opens Tryz.prog 35 cE := by
  have i := opens_I (P := Tryz.prog) Tryz.underlying3 (by kernel_rfl)
  refine opens_to (c := cP cS (cP cI (cP cI (cP cI (cP cI (cP cI (cP cI cN))))))) (opens_R Tryz.underlying35 (by kernel_rfl) (fields_cons (by rfl) (opens_S Tryz.underlying9 (by kernel_rfl)) (fields_cons (by rfl) i (fields_cons (by rfl) i (fields_cons (by rfl) i (fields_cons (by rfl) i (fields_cons (by rfl) i (fields_cons (by rfl) i fields_nil)))))))) rfl ?_
  rintro w B cs ⟨a, b, c, d, e, f, g, _⟩ ⟨_, _, rfl, ⟨rfl, ha⟩, _, _, rfl, ⟨rfl, hb⟩, _, _, rfl, ⟨rfl, hc⟩, _, _, rfl, ⟨rfl, hd⟩, _, _, rfl, ⟨rfl, he⟩, _, _, rfl, ⟨rfl, hf⟩, _, _, rfl, ⟨rfl, hg⟩, rfl⟩ _
  exact ⟨⟨a, b, c, d, e, f, g⟩, ⟨rfl, ha, hb, hc, hd, he, hf, hg⟩, trivial⟩
def cEnd : Cod End2 where
  size := 2
  rd := fun _ _ cs x => cs = [.int .i64 x.el, .int .i64 x.sd] ∧ endO x
  fit := fun _ => True
  len := fun h => by rw [h.1]; rfl
  keep := fun h _ => h
  more := fun h _ => h
theorem opens_end : Opens Tryz.prog 37 cEnd := by
  have i := opens_I (P := Tryz.prog) Tryz.underlying3 (by kernel_rfl)
  refine opens_to (c := cP cI (cP cI cN)) (opens_R Tryz.underlying37 (by kernel_rfl) (fields_cons (by rfl) i (fields_cons (by rfl) i fields_nil))) rfl ?_
  rintro w B cs ⟨a, b, _⟩ ⟨_, _, rfl, ⟨rfl, ha⟩, _, _, rfl, ⟨rfl, hb⟩, rfl⟩ _
  exact ⟨⟨a, b⟩, ⟨rfl, ha, hb⟩, trivial⟩
theorem opens_jnt : Opens Tryz.prog 39 cJ := by
  refine opens_to (c := cP cEnd (cP cEnd cN)) (opens_R Tryz.underlying39 (by kernel_rfl) (fields_cons (by rfl) opens_end (fields_cons (by rfl) opens_end fields_nil))) rfl ?_
  rintro w B cs ⟨a, b, _⟩ ⟨_, _, rfl, ⟨rfl, ha⟩, _, _, rfl, ⟨rfl, hb⟩, rfl⟩ _
  exact ⟨⟨a, b⟩, ⟨rfl, ha, hb⟩, trivial⟩
theorem opens_sgn : Opens Tryz.prog 41 cSg := by
  have i := opens_I (P := Tryz.prog) Tryz.underlying3 (by kernel_rfl)
  refine opens_to (c := cP cS (cP cEnd (cP cI cN))) (opens_R Tryz.underlying41 (by kernel_rfl) (fields_cons (by rfl) (opens_S Tryz.underlying9 (by kernel_rfl)) (fields_cons (by rfl) opens_end (fields_cons (by rfl) i fields_nil)))) rfl ?_
  rintro w B cs ⟨a, b, c, _⟩ ⟨_, _, rfl, ⟨rfl, ha⟩, _, _, rfl, ⟨rfl, hb⟩, _, _, rfl, ⟨rfl, hc⟩, rfl⟩ _
  exact ⟨⟨a, b, c⟩, ⟨rfl, ha, hb, hc⟩, trivial⟩
theorem opens_bls : Opens Tryz.prog 51 cBl := by
  have i := opens_I (P := Tryz.prog) Tryz.underlying3 (by kernel_rfl)
  refine opens_to (c := cP cI (cP cI (cP cI cN))) (opens_R Tryz.underlying51 (by kernel_rfl) (fields_cons (by rfl) i (fields_cons (by rfl) i (fields_cons (by rfl) i fields_nil)))) rfl ?_
  rintro w B cs ⟨a, b, c, _⟩ ⟨_, _, rfl, ⟨rfl, ha⟩, _, _, rfl, ⟨rfl, hb⟩, _, _, rfl, ⟨rfl, hc⟩, rfl⟩ _
  exact ⟨⟨a, b, c⟩, ⟨rfl, ha, hb, hc⟩, trivial⟩
def lvC (v : LV) : List Value := [.string (bs v.l.name), .slice v.A1 v.l.secs.length v.c1, .slice v.A2 v.l.els.length v.c2, .slice v.A3 v.l.jts.length v.c3, .slice v.A4 v.l.sgs.length v.c4, .slice v.A5 v.l.bls.length v.c5]
def cLv : Cod LV where
  size := 6
  rd := fun w S cs v => cs = lvC v ∧ v.l.name.length ≤ maxLen ∧ ((v.l.secs.length ≤ maxLen ∧ v.l.secs.length ≤ v.c1) ∧ RdS cS w S v.A1 v.l.secs) ∧ ((v.l.els.length ≤ maxLen ∧ v.l.els.length ≤ v.c2) ∧ RdS cE w S v.A2 v.l.els) ∧ ((v.l.jts.length ≤ maxLen ∧ v.l.jts.length ≤ v.c3) ∧ RdS cJ w S v.A3 v.l.jts) ∧ ((v.l.sgs.length ≤ maxLen ∧ v.l.sgs.length ≤ v.c4) ∧ RdS cSg w S v.A4 v.l.sgs) ∧ ((v.l.bls.length ≤ maxLen ∧ v.l.bls.length ≤ v.c5) ∧ RdS cBl w S v.A5 v.l.bls)
  fit := fun _ => True
  len := fun h => by rw [h.1]; rfl
  keep := fun ⟨h0, h1, ⟨m1, r1⟩, ⟨m2, r2⟩, ⟨m3, r3⟩, ⟨m4, r4⟩, m5, r5⟩ hk => ⟨h0, h1, ⟨m1, r1.keep hk⟩, ⟨m2, r2.keep hk⟩, ⟨m3, r3.keep hk⟩, ⟨m4, r4.keep hk⟩, m5, r5.keep hk⟩
  more := fun ⟨h0, h1, ⟨m1, r1⟩, ⟨m2, r2⟩, ⟨m3, r3⟩, ⟨m4, r4⟩, m5, r5⟩ hk => ⟨h0, h1, ⟨m1, r1.more hk⟩, ⟨m2, r2.more hk⟩, ⟨m3, r3.more hk⟩, ⟨m4, r4.more hk⟩, m5, r5.more hk⟩
theorem cLv_rd {w : World} {cs : List Value} {v : LV} (h : cLv.rd w (Lt w) cs v) : cs = lvC v ∧ LvR w v := by
  obtain ⟨h0, h1, ⟨m1, r1⟩, ⟨m2, r2⟩, ⟨m3, r3⟩, ⟨m4, r4⟩, m5, r5⟩ := h
  exact ⟨h0, h1, r1, r2, r3, r4, r5, m1, m2, m3, m4, m5⟩
theorem opens_lay : Opens Tryz.prog 28 cLv := by
  have i := opens_I (P := Tryz.prog) Tryz.underlying3 (by kernel_rfl)
  have s := opens_S (P := Tryz.prog) Tryz.underlying9 (by kernel_rfl)
  have s1 := opens_L (P := Tryz.prog) Tryz.underlying22 (by kernel_rfl) s (by decide) (of_decide_eq_true (by kernel_rfl))
  have s2 := opens_L (P := Tryz.prog) Tryz.underlying23 (by kernel_rfl) opens_elt (by decide) (of_decide_eq_true (by kernel_rfl))
  have s3 := opens_L (P := Tryz.prog) Tryz.underlying24 (by kernel_rfl) opens_jnt (by decide) (of_decide_eq_true (by kernel_rfl))
  have s4 := opens_L (P := Tryz.prog) Tryz.underlying25 (by kernel_rfl) opens_sgn (by decide) (of_decide_eq_true (by kernel_rfl))
  have s5 := opens_L (P := Tryz.prog) Tryz.underlying26 (by kernel_rfl) opens_bls (by decide) (of_decide_eq_true (by kernel_rfl))
  refine opens_to (c := cP cS (cP (cL cS) (cP (cL cE) (cP (cL cJ) (cP (cL cSg) (cP (cL cBl) cN)))))) (opens_R Tryz.underlying28 (by kernel_rfl) (fields_cons (by rfl) s (fields_cons (by rfl) s1 (fields_cons (by rfl) s2 (fields_cons (by rfl) s3 (fields_cons (by rfl) s4 (fields_cons (by rfl) s5 fields_nil))))))) rfl ?_
  rintro w B cs ⟨a, b, c, d, e, f, _⟩ ⟨_, _, rfl, ⟨rfl, ha⟩, _, _, rfl, ⟨A1, c1, rfl, m1, r1⟩, _, _, rfl, ⟨A2, c2, rfl, m2, r2⟩, _, _, rfl, ⟨A3, c3, rfl, m3, r3⟩, _, _, rfl, ⟨A4, c4, rfl, m4, r4⟩, _, _, rfl, ⟨A5, c5, rfl, m5, r5⟩, rfl⟩ _
  exact ⟨⟨⟨a, b, c, d, e, f⟩, A1, A2, A3, A4, A5, c1, c2, c3, c4, c5⟩, ⟨rfl, ha, ⟨m1, r1⟩, ⟨m2, r2⟩, ⟨m3, r3⟩, ⟨m4, r4⟩, m5, r5⟩, trivial⟩
end Go.Proofs.YtopoknocfoiiaaaGreatDoor
namespace Go.Proofs.YtopoknocfoiiaaaGreatDoor
set_option linter.unusedVariables false
set_option linter.unusedSimpArgs false
open Go.RowKit
theorem stoodElt : Tryz.prog.stoodInHeld 35 = false := by kernel_rfl
theorem stoodJnt : Tryz.prog.stoodInHeld 39 = false := by kernel_rfl
theorem stoodSgn : Tryz.prog.stoodInHeld 41 = false := by kernel_rfl
theorem stoodBls : Tryz.prog.stoodInHeld 51 = false := by kernel_rfl
set_option maxHeartbeats 4000000 in
theorem eq_elt (w : World) (d : Nat) (x y : Elt) : (Op.equalIn (d + 2) 35 (.agg #[.string (bs x.name), .int .i64 x.kind, .int .i64 x.len, .int .i64 x.grd, .int .i64 x.spd, .int .i64 x.slow, .int .i64 x.sec]) (.agg #[.string (bs y.name), .int .i64 y.kind, .int .i64 y.len, .int .i64 y.grd, .int .i64 y.spd, .int .i64 y.slow, .int .i64 y.sec])).run Tryz.prog w = .ok (decide (x = y)) w := by
  have h3 := Tryz.underlying3
  have h9 := Tryz.underlying9
  have hf := fields_of Tryz.underlying35
  rw [run_equalIn_struct w (d + 1) 35 _ _ (by rw [hf, Tryz.underlying35]) stoodElt, hf]
  obtain ⟨x0, x1, x2, x3, x4, x5, x6⟩ := x
  obtain ⟨y0, y1, y2, y3, y4, y5, y6⟩ := y
  by_cases e0 : x0 = y0
  case neg => simp [go_sem, e0, bs_toList]
  subst e0
  by_cases e1 : x1 = y1
  case neg => simp [go_sem, e1, bs_toList]
  subst e1
  by_cases e2 : x2 = y2
  case neg => simp [go_sem, e2, bs_toList]
  subst e2
  by_cases e3 : x3 = y3
  case neg => simp [go_sem, e3, bs_toList]
  subst e3
  by_cases e4 : x4 = y4
  case neg => simp [go_sem, e4, bs_toList]
  subst e4
  by_cases e5 : x5 = y5
  case neg => simp [go_sem, e5, bs_toList]
  subst e5
  by_cases e6 : x6 = y6
  case neg => simp [go_sem, e6, bs_toList]
  subst e6
  simp [go_sem, bs_toList]
set_option maxHeartbeats 4000000 in
theorem eq_jnt (w : World) (d : Nat) (x y : Jnt) : (Op.equalIn (d + 3) 39 (.agg #[.int .i64 x.a.el, .int .i64 x.a.sd, .int .i64 x.b.el, .int .i64 x.b.sd]) (.agg #[.int .i64 y.a.el, .int .i64 y.a.sd, .int .i64 y.b.el, .int .i64 y.b.sd])).run Tryz.prog w = .ok (decide (x = y)) w := by
  have h3 := Tryz.underlying3
  have hf := fields_of Tryz.underlying39
  have hg := fields_of Tryz.underlying37
  have hs := stoodEnd
  rw [run_equalIn_struct w (d + 2) 39 _ _ (by rw [hf, Tryz.underlying39]) stoodJnt, hf]
  obtain ⟨⟨x0, x1⟩, ⟨x2, x3⟩⟩ := x
  obtain ⟨⟨y0, y1⟩, ⟨y2, y3⟩⟩ := y
  by_cases e0 : x0 = y0
  case neg => simp [go_sem, e0, bs_toList]
  subst e0
  by_cases e1 : x1 = y1
  case neg => simp [go_sem, e1, bs_toList]
  subst e1
  by_cases e2 : x2 = y2
  case neg => simp [go_sem, e2, bs_toList]
  subst e2
  by_cases e3 : x3 = y3
  case neg => simp [go_sem, e3, bs_toList]
  subst e3
  simp [go_sem, bs_toList]
set_option maxHeartbeats 4000000 in
theorem eq_sgn (w : World) (d : Nat) (x y : Sgn) : (Op.equalIn (d + 3) 41 (.agg #[.string (bs x.name), .int .i64 x.pos.el, .int .i64 x.pos.sd, .int .i64 x.ovl]) (.agg #[.string (bs y.name), .int .i64 y.pos.el, .int .i64 y.pos.sd, .int .i64 y.ovl])).run Tryz.prog w = .ok (decide (x = y)) w := by
  have h3 := Tryz.underlying3
  have h9 := Tryz.underlying9
  have hf := fields_of Tryz.underlying41
  have hg := fields_of Tryz.underlying37
  have hs := stoodEnd
  rw [run_equalIn_struct w (d + 2) 41 _ _ (by rw [hf, Tryz.underlying41]) stoodSgn, hf]
  obtain ⟨x0, ⟨x1, x2⟩, x3⟩ := x
  obtain ⟨y0, ⟨y1, y2⟩, y3⟩ := y
  by_cases e0 : x0 = y0
  case neg => simp [go_sem, e0, bs_toList]
  subst e0
  by_cases e1 : x1 = y1
  case neg => simp [go_sem, e1, bs_toList]
  subst e1
  by_cases e2 : x2 = y2
  case neg => simp [go_sem, e2, bs_toList]
  subst e2
  by_cases e3 : x3 = y3
  case neg => simp [go_sem, e3, bs_toList]
  subst e3
  simp [go_sem, bs_toList]
set_option maxHeartbeats 4000000 in
theorem eq_bls (w : World) (d : Nat) (x y : Bls) : (Op.equalIn (d + 2) 51 (.agg #[.int .i64 x.id, .int .i64 x.el, .int .i64 x.off]) (.agg #[.int .i64 y.id, .int .i64 y.el, .int .i64 y.off])).run Tryz.prog w = .ok (decide (x = y)) w := by
  have h3 := Tryz.underlying3
  have hf := fields_of Tryz.underlying51
  rw [run_equalIn_struct w (d + 1) 51 _ _ (by rw [hf, Tryz.underlying51]) stoodBls, hf]
  obtain ⟨x0, x1, x2⟩ := x
  obtain ⟨y0, y1, y2⟩ := y
  by_cases e0 : x0 = y0
  case neg => simp [go_sem, e0, bs_toList]
  subst e0
  by_cases e1 : x1 = y1
  case neg => simp [go_sem, e1, bs_toList]
  subst e1
  by_cases e2 : x2 = y2
  case neg => simp [go_sem, e2, bs_toList]
  subst e2
  simp [go_sem, bs_toList]
end Go.Proofs.YtopoknocfoiiaaaGreatDoor
