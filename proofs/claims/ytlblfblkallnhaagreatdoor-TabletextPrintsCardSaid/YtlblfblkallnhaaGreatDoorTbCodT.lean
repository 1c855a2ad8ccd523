/- The arguments of the table's laws opened. -/
import Derived.Test.YtlblfblkallnhaaGreatDoorTbCod
import Derived.Test.YtlblfblkallnhaaGreatDoorTbBase
namespace Go.Proofs.YtlblfblkallnhaaGreatDoor
set_option linter.unusedVariables false
set_option linter.unusedSimpArgs false
open Go.RowKit
section
variable {P : Program} {t : TypeId}
/-- A codec from another. -/
theorem opens_to {α β : Type} {c : Cod α} {d : Cod β} (h : Opens P t c) (hs : c.size = d.size) (hr : ∀ (w : World) (S : Nat → Prop) (cs : List Value) (a : α), c.rd w S cs a → c.fit a → ∃ b, d.rd w S cs b ∧ d.fit b) : Opens P t d :=
  ⟨h.size.trans hs, fun hx hf => by obtain ⟨a, ha, hfa⟩ := h.opens hx hf; exact hr _ _ _ _ ha hfa⟩
end
theorem opens_stp : Opens Tryz.prog 50 cStp := by
  have i := opens_I (P := Tryz.prog) Tryz.underlying3 (by kernel_rfl)
  refine opens_to (c := cP cI (cP cI (cP cI cN))) (opens_R Tryz.underlying50 (by kernel_rfl) (fields_cons (by rfl) i (fields_cons (by rfl) i (fields_cons (by rfl) i fields_nil)))) rfl ?_
  rintro w B cs ⟨a, b, c, _⟩ ⟨_, _, rfl, ⟨rfl, ha⟩, _, _, rfl, ⟨rfl, hb⟩, _, _, rfl, ⟨rfl, hc⟩, rfl⟩ _
  exact ⟨⟨a, b, c⟩, ⟨rfl, ha, hb, hc⟩, trivial⟩
theorem opens_stg : Opens Tryz.prog 99 cStg := by
  have i := opens_I (P := Tryz.prog) Tryz.underlying3 (by kernel_rfl)
  refine opens_to (c := cP cI (cP cI cN)) (opens_R Tryz.underlying99 (by kernel_rfl) (fields_cons (by rfl) i (fields_cons (by rfl) i fields_nil))) rfl ?_
  rintro w B cs ⟨a, b, _⟩ ⟨_, _, rfl, ⟨rfl, ha⟩, _, _, rfl, ⟨rfl, hb⟩, rfl⟩ _
  exact ⟨⟨a, b⟩, ⟨rfl, ha, hb⟩, trivial⟩
theorem opens_en2 : Opens Tryz.prog 107 cEnd := by
  have i := opens_I (P := Tryz.prog) Tryz.underlying3 (by kernel_rfl)
  refine opens_to (c := cP cI (cP cI cN)) (opens_R Tryz.underlying107 (by kernel_rfl) (fields_cons (by rfl) i (fields_cons (by rfl) i fields_nil))) rfl ?_
  rintro w B cs ⟨a, b, _⟩ ⟨_, _, rfl, ⟨rfl, ha⟩, _, _, rfl, ⟨rfl, hb⟩, rfl⟩ _
  exact ⟨⟨a, b⟩, ⟨rfl, ha, hb⟩, trivial⟩
theorem opens_rou : Opens Tryz.prog 41 cR := by
  have i := opens_I (P := Tryz.prog) Tryz.underlying3 (by kernel_rfl)
  have s := opens_S (P := Tryz.prog) Tryz.underlying9 (by kernel_rfl)
  have s1 := opens_L (P := Tryz.prog) Tryz.underlying37 (by kernel_rfl) opens_stp (by decide) (of_decide_eq_true (by kernel_rfl))
  have s2 := opens_L (P := Tryz.prog) Tryz.underlying38 (by kernel_rfl) opens_stg (by decide) (of_decide_eq_true (by kernel_rfl))
  have s3 := opens_L (P := Tryz.prog) Tryz.underlying23 (by kernel_rfl) i (by decide) (of_decide_eq_true (by kernel_rfl))
  have s4 := opens_L (P := Tryz.prog) Tryz.underlying39 (by kernel_rfl) opens_en2 (by decide) (of_decide_eq_true (by kernel_rfl))
  refine opens_to (c := cP cS (cP cI (cP cI (cP (cL cStp) (cP (cL cStg) (cP (cL cI) (cP cI (cP cI (cP (cL cStp) (cP (cL cStg) (cP (cL cI) (cP (cL cStg) (cP (cL cI) (cP (cL cEnd) cN)))))))))))))) (opens_R Tryz.underlying41 (by kernel_rfl) (fields_cons (by rfl) s (fields_cons (by rfl) i (fields_cons (by rfl) i (fields_cons (by rfl) s1 (fields_cons (by rfl) s2 (fields_cons (by rfl) s3 (fields_cons (by rfl) i (fields_cons (by rfl) i (fields_cons (by rfl) s1 (fields_cons (by rfl) s2 (fields_cons (by rfl) s3 (fields_cons (by rfl) s2 (fields_cons (by rfl) s3 (fields_cons (by rfl) s4 fields_nil))))))))))))))) rfl ?_
  rintro w B cs ⟨a, b, c, d, e, f, g, h, j, k, l, m, n, o, _⟩ ⟨_, _, rfl, ⟨rfl, ha⟩, _, _, rfl, ⟨rfl, hb⟩, _, _, rfl, ⟨rfl, hc⟩, _, _, rfl, ⟨A1, c1, rfl, m1, r1⟩, _, _, rfl, ⟨A2, c2, rfl, m2, r2⟩, _, _, rfl, ⟨A3, c3, rfl, m3, r3⟩, _, _, rfl, ⟨rfl, hg⟩, _, _, rfl, ⟨rfl, hh⟩, _, _, rfl, ⟨A4, c4, rfl, m4, r4⟩, _, _, rfl, ⟨A5, c5, rfl, m5, r5⟩, _, _, rfl, ⟨A6, c6, rfl, m6, r6⟩, _, _, rfl, ⟨A7, c7, rfl, m7, r7⟩, _, _, rfl, ⟨A8, c8, rfl, m8, r8⟩, _, _, rfl, ⟨A9, c9, rfl, m9, r9⟩, rfl⟩ _
  exact ⟨⟨a, b, c, g, h, d, e, f, j, k, l, m, n, o⟩, ⟨⟨⟨a, b, c, g, h, d, e, f, j, k, l, m, n, o⟩, A1, A2, A3, A4, A5, A6, A7, A8, A9, c1, c2, c3, c4, c5, c6, c7, c8, c9⟩, rfl, rfl, ⟨ha, hb, hc, hg, hh, m1, m2, m3, m4, m5, m6, m7, m8, m9⟩, r1, r2, r3, r4, r5, r6, r7, r8, r9⟩, trivial⟩
def tvC (v : TabV) : List Value := [.slice v.A1 v.t.rts.length v.c1, .slice v.A2 v.t.pts.length v.c2, .slice v.A3 v.t.homes.length v.c3, .int .i64 v.t.nsec, .int .i64 v.t.nsig]
def cTv : Cod TabV where
  size := 5
  rd := fun w S cs v => cs = tvC v ∧ ((v.t.rts.length ≤ maxLen ∧ v.t.rts.length ≤ v.c1) ∧ RdS cR w S v.A1 v.t.rts) ∧ ((v.t.pts.length ≤ maxLen ∧ v.t.pts.length ≤ v.c2) ∧ RdS cI w S v.A2 v.t.pts) ∧ ((v.t.homes.length ≤ maxLen ∧ v.t.homes.length ≤ v.c3) ∧ RdS cI w S v.A3 v.t.homes) ∧ I64n v.t.nsec ∧ I64n v.t.nsig
  fit := fun _ => True
  len := fun h => by rw [h.1]; rfl
  keep := fun ⟨h0, ⟨m1, r1⟩, ⟨m2, r2⟩, ⟨m3, r3⟩, h4⟩ hk => ⟨h0, ⟨m1, r1.keep hk⟩, ⟨m2, r2.keep hk⟩, ⟨m3, r3.keep hk⟩, h4⟩
  more := fun ⟨h0, ⟨m1, r1⟩, ⟨m2, r2⟩, ⟨m3, r3⟩, h4⟩ hk => ⟨h0, ⟨m1, r1.more hk⟩, ⟨m2, r2.more hk⟩, ⟨m3, r3.more hk⟩, h4⟩
theorem cTv_rd {w : World} {cs : List Value} {v : TabV} (h : cTv.rd w (Lt w) cs v) : cs = tvC v ∧ TvR w v := by
  obtain ⟨h0, ⟨m1, r1⟩, ⟨m2, r2⟩, ⟨m3, r3⟩, h4, h5⟩ := h
  exact ⟨h0, r1, r2, r3, m1, m2, m3, h4, h5⟩
theorem opens_tab : Opens Tryz.prog 25 cTv := by
  have i := opens_I (P := Tryz.prog) Tryz.underlying3 (by kernel_rfl)
  have s1 := opens_L (P := Tryz.prog) Tryz.underlying22 (by kernel_rfl) opens_rou (by decide) (of_decide_eq_true (by kernel_rfl))
  have s3 := opens_L (P := Tryz.prog) Tryz.underlying23 (by kernel_rfl) i (by decide) (of_decide_eq_true (by kernel_rfl))
  refine opens_to (c := cP (cL cR) (cP (cL cI) (cP (cL cI) (cP cI (cP cI cN))))) (opens_R Tryz.underlying25 (by kernel_rfl) (fields_cons (by rfl) s1 (fields_cons (by rfl) s3 (fields_cons (by rfl) s3 (fields_cons (by rfl) i (fields_cons (by rfl) i fields_nil)))))) rfl ?_
  rintro w B cs ⟨a, b, c, d, e, _⟩ ⟨_, _, rfl, ⟨A1, c1, rfl, m1, r1⟩, _, _, rfl, ⟨A2, c2, rfl, m2, r2⟩, _, _, rfl, ⟨A3, c3, rfl, m3, r3⟩, _, _, rfl, ⟨rfl, hd⟩, _, _, rfl, ⟨rfl, he⟩, rfl⟩ _
  exact ⟨⟨⟨a, b, c, d, e⟩, A1, A2, A3, c1, c2, c3⟩, ⟨rfl, ⟨m1, r1⟩, ⟨m2, r2⟩, ⟨m3, r3⟩, hd, he⟩, trivial⟩
end Go.Proofs.YtlblfblkallnhaaGreatDoor
