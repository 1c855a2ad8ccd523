/- TopLocks: for every input the law returns true, and each argument reads afterwards as it read before, where the listed package-level variables hold what the program's text lays. -/
import Derived.Test.YtpenlfedkacglaaGreatDoorL27
import Derived.WalkKit
import Derived.ProofKit
import Derived.OpenShut
import Derived.ShutString
import Derived.Below
import Derived.Carry
import Derived.SevenTiedAt
namespace Go.Proofs.YtpenlfedkacglaaGreatDoor.topLocks
open Go.ChangeShapes Go.WideShapes Go.ChangeAt Go.RowKit
open Go.ChangeMaps (open_string shut_string)
set_option linter.unusedVariables false
/-! ### The row's step -/
set_option maxRecDepth 100000 in
set_option maxHeartbeats 4000000 in
theorem lifted (os : Os) (started : os.Started) (H : Type) (enc : TypeId × Value → H) :
    ReturnsInHanded {} Tryz.checked os 3 .any (fun w args => (Rows.topLocksSpec.pre enc Tryz.prog Tryz.f3 Rows.topLocksRow.domain false w args ∧ laidMetH Tryz.prog Rows.topLocksRow.laid w) ∧ sizedMet enc Tryz.prog Tryz.f3 (OpenSpec.ofChange Rows.topLocksSpec) false w args) (Rows.topLocksSpec.post enc Tryz.prog Tryz.f3 false true false false) := by
  refine z7q (C := Tryz.checked) (X := fun w _ => laidMetH Tryz.prog y1m w) (fun _ _ _ hh h => h.of_heap hh) knob started (by kernel_rfl) Tryz.func3
    (ChangeSpec.witness_shaped (enc := enc) (C := Tryz.checked) (os := os) (X := fun w _ => laidMetH Tryz.prog y1m w) false (World.laidAll Tryz.prog os y1m) #[.agg #[.string ByteArray.empty, .slice none 0 0, .slice none 0 0, .slice none 0 0, .slice none 0 0, .slice none 0 0], .slice none 0 0] 8 (World.laidAll_os _ _ _)
      (x1q os _) (by kernel_rfl) (by kernel_rfl) (by kernel_rfl)
      (j3n os _)) ?_
  intro W base args ds gs before hval0 hW hsz0 hL hsh
  have hEnv := j5r hL hsh
  have hval : ∀ (j : Nat) t v, Tryz.f3.params[j]? = some t → args[j]? = some v → Value.okWide Tryz.prog W .any base t v := hval0
  have hsz : (DataW.weightsEach Tryz.prog (Tryz.f3.params.toList ++ Rows.topLocksSpec.plain.varTypes Tryz.prog) (ds ++ gs)).all (· ≤ reachBytes) = true := hsz0
  have hW' := hW
  obtain ⟨p, q, hA0, hV, rfl, hfz, hnd⟩ := hW
  have hA : DataW.TrodAll enc Tryz.prog W 0 (fun _ => true) true Tryz.f3.params.toList args.toList ds p := hA0
  rw [Tryz.params3] at hA hval hsz
  obtain ⟨v0, vs0, d0, ds0, p0, q0, hargs, rfl, rfl, h0, r0⟩ := trodAll_cons hA
  obtain ⟨v1, vs1, d1, ds1, p1, q1, rfl, rfl, rfl, h1, r1⟩ := trodAll_cons r0
  obtain ⟨rfl, rfl, rfl⟩ := trodAll_nil r1
  obtain rfl : args = #[v0, v1] := by cases args; simp_all
  obtain ⟨rfl, rfl⟩ := trodVars_none hV
  have k0 := h0
  have hlt0 : ∀ x ∈ p0, x.block < W.heap.size := fun x hx => by have := hW'.lt x (by simp [hx]); simpa using this
  have k1 := h1
  have hlt1 : ∀ x ∈ p1, x.block < W.heap.size := fun x hx => by have := hW'.lt x (by simp [hx]); simpa using this
  obtain ⟨cs0, a0, rfl, r0', f0⟩ := y7s Tryz.underlying28 x4q (hval 0 28 v0 rfl rfl) h0 (y9k hsz (j := 0) rfl rfl)
  obtain ⟨rfl, o0⟩ := j5g r0'
  obtain ⟨A1, c1, a1, rfl, o1, r1', f1⟩ := open_slice Tryz.underlying29 x1g (hval 1 29 v1 rfl rfl) h1 (y9k hsz (j := 1) rfl rfl)
  clear hA0 hval0 hsz0
  simp only [List.append_nil] at hW'
  refine (y4m a0 a1 A1 c1 W hEnv o0 f0 r1' o1).mono fun e W' ⟨he, hg⟩ => ?_
  subst he
  exact ⟨_, rfl, _, _, _, [], _, [], hW', (trodAll_cons_mk (shut_bool Tryz.underlying4 _) trodAll_mk0), (trodAll_cons_mk (Below.trod y6v (by kernel_rfl) (of_decide_eq_true (by kernel_rfl)) k0 hg hlt0) (trodAll_cons_mk (Below.trod y6v (by kernel_rfl) (of_decide_eq_true (by kernel_rfl)) k1 hg hlt1) trodAll_mk0)), rfl, hg.frame _, fun h => by cases h⟩

set_option maxHeartbeats 8000000 in
theorem closed : joinedFacts Tryz.pinned.checked.prog 3 Tryz.f3 Rows.topLocksSpec Rows.topLocksRow = true := by
  unfold joinedFacts
  refine (z2g (z2g (z2g (z2g (z2g (z2g (z2g (z2g (z2g (z2g (z2g (z2g (z2g (z2g (z2g (z2g (z2g (z2g (z2g (z2g (z2g (z2g (z2g (z2g (z2g (z2g (z2g (z2g (z2g (z2g (z2g ?_ y6v) j1c) ?_) ?_) ?_) x72) ?_) x6z) ?_) ?_) ?_) ?_) ?_) ?_) ?_) ?_) ?_) ?_) ?_) ?_) ?_) x70) ?_) x6y) x6x) j1a) j1b) ?_) ?_) ?_) ?_)
  all_goals (as_aux_lemma => kernel_rfl)

theorem over : Rows.topLocksRow.holds Tryz.pinned (OpenSpec.ofChange Rows.topLocksSpec) :=
  OpenClaim.holds_of_wide 3 Tryz.f3 rfl rfl rfl rfl rfl rfl rfl ⟨rfl, rfl, rfl, rfl, rfl⟩ rfl rfl rfl rfl rfl (by kernel_rfl) Tryz.func3 closed
    (of_decide_eq_true (by kernel_rfl)) (by unfold Func.isWrapper; first | (rw [if_pos (by decide +kernel)]; kernel_rfl) | (rw [if_neg (by decide +kernel)]; exact ⟨rfl, rfl⟩))
    (fun os started H enc _ => lifted os started H enc)

/-- The statement: the tied card. -/
theorem proved : Rows.TopLocksCardSaid :=
  Claim7.holds_tied_plain_at .later [] [.data, .data, .data, .data, .data] true (true, "96c7cc5faa284c27759dc42a3e92a67b55182c4d00a4f377857d591be5f82772") false over (fun _ h => by cases h) (by kernel_rfl) (fun _ h => by cases h) topLocks_row_tie rfl ⟨rfl, rfl⟩ (by kernel_rfl) rfl
    (fun f fn hf hfn => by
      obtain rfl : f = 3 := Option.some.inj ((show Tryz.prog.funcNamed "signalling/signallingtop.TopLocks" = some 3 by kernel_rfl).symm.trans hf) |>.symm
      obtain rfl : fn = Tryz.f3 := (Option.some.inj (Tryz.func3.symm.trans hfn)).symm
      exact ⟨by kernel_rfl, fun j t ht => by
        rw [Tryz.params3] at ht
        have hm : t ∈ ([28, 29] : List Nat) := by simpa using Array.mem_of_getElem? ht
        have hall : (([28, 29] : List Nat).all fun u => !Tryz.prog.wantsStandIn u) = true := by kernel_rfl
        exact (show Tryz.prog.wantsStandIn t = false by simpa using List.all_eq_true.1 hall t hm)⟩)
    (by kernel_rfl)
#print axioms proved
end Go.Proofs.YtpenlfedkacglaaGreatDoor.topLocks
