/- PlanFirst: for every input the law returns true, and each argument reads afterwards as it read before, where the listed package-level variables hold what the program's text lays. -/
import Derived.Test.YtopoknocfoiiaaaDoorPlLawF
import Derived.Test.YtopoknocfoiiaaaDoorPlCodE
import Derived.Test.YtopoknocfoiiaaaDoorPlCard
import Derived.Test.YtopoknocfoiiaaaDoorClosed
import Derived.WalkKit
import Derived.ProofKit
import Derived.OpenShut
import Derived.ShutString
import Derived.Below
import Derived.Carry
import Derived.SevenTiedAt
namespace Go.Proofs.YtopoknocfoiiaaaDoor.planFirst
open Go.ChangeShapes Go.WideShapes Go.ChangeAt Go.RowKit
open Go.ChangeMaps (open_string shut_string)
set_option linter.unusedVariables false
theorem bs_le {l : List UInt8} (h : (bs l).size ≤ maxLen) : l.length ≤ maxLen := by rwa [bs_size] at h
/-! ### The row's step -/
set_option maxRecDepth 100000 in
set_option maxHeartbeats 4000000 in
theorem lifted (os : Os) (started : os.Started) (H : Type) (enc : TypeId × Value → H) :
    ReturnsInHanded {} Tryd.checked os 5 .any (fun w args => (Rows.planFirstSpec.pre enc Tryd.prog Tryd.f5 Rows.planFirstRow.domain false w args ∧ laidMetH Tryd.prog Rows.planFirstRow.laid w) ∧ sizedMet enc Tryd.prog Tryd.f5 (OpenSpec.ofChange Rows.planFirstSpec) false w args) (Rows.planFirstSpec.post enc Tryd.prog Tryd.f5 false true false false) := by
  refine returns_and_shaped (C := Tryd.checked) (X := fun w _ => laidMetH Tryd.prog laidL w) (fun _ _ _ hh h => h.of_heap hh) knob started (by kernel_rfl) Tryd.func5
    (ChangeSpec.witness_shaped (enc := enc) (C := Tryd.checked) (os := os) (X := fun w _ => laidMetH Tryd.prog laidL w) false (World.laidAll Tryd.prog os laidL) #[.string ByteArray.empty, .slice none 0 0] 8 (World.laidAll_os _ _ _)
      (seatShaped os _) (by kernel_rfl) (by kernel_rfl) (by kernel_rfl)
      (seatMet os _)) ?_
  intro W base args ds gs before hval0 hW hsz0 hL hsh
  have hEnv := env_of hL hsh
  have hval : ∀ (j : Nat) t v, Tryd.f5.params[j]? = some t → args[j]? = some v → Value.okWide Tryd.prog W .any base t v := hval0
  have hsz : (DataW.weightsEach Tryd.prog (Tryd.f5.params.toList ++ Rows.planFirstSpec.plain.varTypes Tryd.prog) (ds ++ gs)).all (· ≤ reachBytes) = true := hsz0
  have hW' := hW
  obtain ⟨p, q, hA0, hV, rfl, hfz, hnd⟩ := hW
  have hA : DataW.TrodAll enc Tryd.prog W 0 (fun _ => true) true Tryd.f5.params.toList args.toList ds p := hA0
  rw [Tryd.params5] at hA hval hsz
  obtain ⟨v0, vs0, d0, ds0, p0, q0, hargs, rfl, rfl, h0, r0⟩ := trodAll_cons hA
  obtain ⟨v1, vs1, d1, ds1, p1, q1, rfl, rfl, rfl, h1, r1⟩ := trodAll_cons r0
  obtain ⟨rfl, rfl, rfl⟩ := trodAll_nil r1
  obtain rfl : args = #[v0, v1] := by cases args; simp_all
  obtain ⟨rfl, rfl⟩ := trodVars_none hV
  have k1 := h1
  have hlt1 : ∀ x ∈ p1, x.block < W.heap.size := fun x hx => by have := hW'.lt x (by simp [hx]); simpa using this
  obtain ⟨s0, rfl, rfl, rfl, w0⟩ := open_string Tryd.underlying9 (hval 0 9 v0 rfl rfl) h0
  obtain ⟨a0, rfl⟩ := bs_of s0
  obtain ⟨A1, c1, a1, rfl, o1, r1', f1⟩ := open_slice Tryd.underlying39 opens_lines (hval 1 39 v1 rfl rfl) h1 (reach_at hsz (j := 1) rfl rfl)
  clear hA0 hval0 hsz0
  simp only [List.append_nil] at hW'
  refine (planFirst_walk a0 a1 A1 c1 W hEnv (bs_le w0) r1' f1 o1.2).mono fun e W' ⟨he, hg⟩ => ?_
  subst he
  exact ⟨_, rfl, _, _, _, [], _, [], hW', (trodAll_cons_mk (shut_bool Tryd.underlying4 _) trodAll_mk0), (trodAll_cons_mk (shut_string Tryd.underlying9 w0) (trodAll_cons_mk (Below.trod cl_laid (by kernel_rfl) (of_decide_eq_true (by kernel_rfl)) k1 hg hlt1) trodAll_mk0)), rfl, hg.frame _, fun h => by cases h⟩

theorem closed : joinedFacts Tryd.pinned.checked.prog 5 Tryd.f5 Rows.planFirstSpec Rows.planFirstRow = true := by
  unfold joinedFacts
  refine (and_t (and_t (and_t (and_t (and_t (and_t (and_t (and_t (and_t (and_t (and_t (and_t (and_t (and_t (and_t (and_t (and_t (and_t (and_t (and_t (and_t (and_t (and_t (and_t (and_t (and_t (and_t (and_t (and_t (and_t (and_t ?_ cl_laid) cl_maps) ?_) ?_) ?_) cl_stops) ?_) cl_knobs) ?_) ?_) ?_) ?_) ?_) ?_) ?_) ?_) ?_) ?_) ?_) ?_) ?_) cl_plain) ?_) cl_heard) cl_enter) cl_lift) cl_make) ?_) ?_) ?_) ?_)
  all_goals (as_aux_lemma => kernel_rfl)

theorem over : Rows.planFirstRow.holds Tryd.pinned (OpenSpec.ofChange Rows.planFirstSpec) :=
  OpenClaim.holds_of_wide 5 Tryd.f5 rfl rfl rfl rfl rfl rfl rfl ⟨rfl, rfl, rfl, rfl, rfl⟩ rfl rfl rfl rfl rfl (by kernel_rfl) Tryd.func5 closed
    (of_decide_eq_true (by kernel_rfl)) (by unfold Func.isWrapper; first | (rw [if_pos (by decide +kernel)]; kernel_rfl) | (rw [if_neg (by decide +kernel)]; exact ⟨rfl, rfl⟩))
    (fun os started H enc _ => lifted os started H enc)

/-- The statement: the tied card. -/
theorem proved : Rows.PlanFirstCardSaid :=
  Claim7.holds_tied_plain_at .later [] [.data, .data, .data, .data, .data, .sentinel, .sentinel, .pinned] true (true, "f6a06384ee5e913397ff5a9b386827f24bfc1703ad8015172e364cb1aba3262b") true over (fun _ h => by cases h) (by kernel_rfl) (fun _ h => by cases h) planFirst_row_tie rfl ⟨rfl, rfl⟩ (by kernel_rfl) rfl
    (fun f fn hf hfn => by
      obtain rfl : f = 5 := Option.some.inj ((show Tryd.prog.funcNamed "signalling/signallinglaw08.PlanFirst" = some 5 by kernel_rfl).symm.trans hf) |>.symm
      obtain rfl : fn = Tryd.f5 := (Option.some.inj (Tryd.func5.symm.trans hfn)).symm
      exact ⟨by kernel_rfl, fun j t ht => by
        rw [Tryd.params5] at ht
        have hm : t ∈ ([9, 39] : List Nat) := by simpa using Array.mem_of_getElem? ht
        have hall : (([9, 39] : List Nat).all fun u => !Tryd.prog.wantsStandIn u) = true := by kernel_rfl
        exact (show Tryd.prog.wantsStandIn t = false by simpa using List.all_eq_true.1 hall t hm)⟩)
    (by kernel_rfl)
#print axioms proved
end Go.Proofs.YtopoknocfoiiaaaDoor.planFirst
