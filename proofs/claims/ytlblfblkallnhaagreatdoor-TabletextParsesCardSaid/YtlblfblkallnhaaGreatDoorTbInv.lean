/- A drawn region walked by an invariant: whatever order is picked, each operation that comes up keeps it. Over any program. -/
import Derived.Test.YtlblfblkallnhaaGreatDoorTbBase
import Derived.Orders
namespace Go.Proofs.YtlblfblkallnhaaGreatDoor
set_option linter.unusedVariables false
set_option linter.unusedSimpArgs false
open Go.RowKit
section
variable {P : Program} {ops : Array Oper} {Q : Exit → Act → World → Prop} {md : Region.Mode}
def cntF (l : Array Bool) : Nat := l.toList.count false
theorem cntF_set {l : Array Bool} {i : Nat} (h : l[i]? = some false) : cntF (l.setIfInBounds i true) + 1 = cntF l := by
  have hi : i < l.size := (Array.getElem?_eq_some_iff.1 h).1
  have hv : l.toList[i]'(by simpa using hi) = false := by
    have := (Array.getElem?_eq_some_iff.1 h).2
    simpa using this
  unfold cntF
  rw [Array.toList_setIfInBounds, List.count_set (by simpa using hi), hv]
  have hpos : 0 < l.toList.count false := List.count_pos_iff.2 (hv ▸ List.getElem_mem _)
  rw [if_pos (by decide), if_neg (by decide)]
  omega
theorem cntF_zero {l : Array Bool} (h : cntF l = 0) {i : Nat} (hi : l[i]? = some false) : False := by
  have := cntF_set hi
  omega
/-- Every operation waits for earlier ones alone. -/
def Down (ops : Array Oper) : Bool := (List.range ops.size).all fun i => ((ops[i]?).map fun o => o.after.all fun e => decide (e.on < i)).getD true
theorem down_all (hd : Down ops = true) {listed : Array Bool} (hs : listed.size = ops.size) (hr : Region.ready md ops listed = []) : ∀ i, i < ops.size → listed[i]? = some true := by
  intro i
  induction i using Nat.strongRecOn with
  | _ i ih =>
    intro hi
    have hli : i < listed.size := by omega
    rw [Array.getElem?_eq_getElem hli]
    cases hv : listed[i] with
    | true => rfl
    | false =>
      exfalso
      have hmem : i ∈ Region.ready md ops listed := by
        unfold Region.ready
        refine List.mem_filter.2 ⟨List.mem_range.2 hi, ?_⟩
        have h1 : listed.getD i true = false := by simp [Array.getD, hli, hv]
        rw [h1, Array.getElem?_eq_getElem hi]
        simp only [Bool.not_false, Bool.true_and, Option.map_some, Option.getD_some]
        rw [Array.all_eq_true_iff_forall_mem]
        intro e he
        have h2 := List.all_eq_true.1 hd i (List.mem_range.2 hi)
        rw [Array.getElem?_eq_getElem hi] at h2
        simp only [Option.map_some, Option.getD_some] at h2
        rw [Array.all_eq_true_iff_forall_mem] at h2
        have h3 : e.on < i := by simpa using h2 e he
        have h4 := ih e.on h3 (by omega)
        have h5 : listed.getD e.on false = true := by
          have hlt : e.on < listed.size := by omega
          rw [Array.getElem?_eq_getElem hlt] at h4
          simp [Array.getD, hlt, Option.some.inj h4]
        rw [h5, Bool.or_true]
      rw [hr] at hmem
      cases hmem
theorem ready_spec {listed : Array Bool} {i : Nat} (h : i ∈ Region.ready md ops listed) : i < ops.size ∧ listed.getD i true = false ∧ ∀ o, ops[i]? = some o → ∀ e ∈ o.after, Region.binds md e = true → listed.getD e.on false = true := by
  unfold Region.ready at h
  obtain ⟨h1, h2⟩ := List.mem_filter.1 h
  have hi := List.mem_range.1 h1
  rw [Array.getElem?_eq_getElem hi] at h2
  simp only [Option.map_some, Option.getD_some, Bool.and_eq_true, Bool.not_eq_true'] at h2
  refine ⟨hi, h2.1, fun o ho e he hb => ?_⟩
  rw [Array.getElem?_eq_getElem hi] at ho
  cases ho
  have h3 := h2.2
  rw [Array.all_eq_true_iff_forall_mem] at h3
  have h4 := h3 e he
  rw [hb] at h4
  simpa using h4
theorem wpAny_inv (hd : Down ops = true) (I : Array Bool → Act → World → Prop) (hsz : ∀ listed a w, I listed a w → listed.size = ops.size)
    (hstep : ∀ listed a w i, I listed a w → i < ops.size → listed[i]? = some false → (∀ o, ops[i]? = some o → ∀ e ∈ o.after, Region.binds md e = true → listed[e.on]? = some true) → wpOp P ops Q i (fun a' w' => I (listed.setIfInBounds i true) a' w') a w)
    (hend : ∀ listed a w, I listed a w → (∀ i, i < ops.size → listed[i]? = some true) → Q .normal a w) :
    ∀ (fuel : Nat) (listed : Array Bool) (a : Act) (w : World), I listed a w → cntF listed ≤ fuel → wpAny P md ops Q fuel listed a w := by
  have hf : ∀ {listed : Array Bool} {i : Nat}, listed.getD i true = false → listed[i]? = some false := by
    intro listed i h
    unfold Array.getD at h
    split at h
    · rename_i hi; rw [Array.getElem?_eq_getElem hi]; exact congrArg some h
    · cases h
  have ht : ∀ {listed : Array Bool} {i : Nat}, listed.getD i false = true → listed[i]? = some true := by
    intro listed i h
    unfold Array.getD at h
    split at h
    · rename_i hi; rw [Array.getElem?_eq_getElem hi]; exact congrArg some h
    · cases h
  intro fuel
  induction fuel with
  | zero =>
    intro listed a w hI hc
    have hr : Region.ready md ops listed = [] := by
      rw [List.eq_nil_iff_forall_not_mem]
      intro i hi
      exact cntF_zero (Nat.le_zero.1 hc) (hf (ready_spec hi).2.1)
    exact ⟨hr, hend listed a w hI (down_all hd (hsz _ _ _ hI) hr)⟩
  | succ fuel ih =>
    intro listed a w hI hc
    refine ⟨fun hr => hend listed a w hI (down_all hd (hsz _ _ _ hI) hr), fun i hi => ?_⟩
    obtain ⟨h1, h2, h3⟩ := ready_spec hi
    refine wpOp_mono (fun a' w' h => ih _ a' w' h ?_) (hstep listed a w i hI h1 (hf h2) fun o ho e he hb => ht (h3 o ho e he hb))
    have := cntF_set (hf h2)
    omega
theorem wp_region_inv {id : Nat} {a : Act} {w : World} (hm : P.follows .mixedOrders = true) (hd : Down ops = true) (I : Array Bool → Act → World → Prop) (h0 : I (Array.replicate ops.size false) a w.drew) (hsz : ∀ listed a w, I listed a w → listed.size = ops.size)
    (hstep : ∀ listed a w i, I listed a w → i < ops.size → listed[i]? = some false → (∀ o, ops[i]? = some o → ∀ e ∈ o.after, Region.binds .any e = true → listed[e.on]? = some true) → wpOp P ops Q i (fun a' w' => I (listed.setIfInBounds i true) a' w') a w)
    (hend : ∀ listed a w, I listed a w → (∀ i, i < ops.size → listed[i]? = some true) → Q .normal a w) : (Code.region id ops true).wp P Q a w :=
  wp_region_any hm (wpAny_inv hd I hsz hstep hend _ _ _ _ h0 (by unfold cntF; simp))
/-- One operation without a guard: its own step. -/
theorem wpOp_at {i : Nat} {o : Oper} {a : Act} {w : World} {K : Act → World → Prop} (ho : ops[i]? = some o) (h : if Region.wanted o (yielded ops a.tmps) = true then Oper.wp P o a w K Q else K (a.put o.dst undef) w) : wpOp P ops Q i K a w := by
  unfold wpOp
  rw [ho]
  simp only
  split
  · rename_i hw; rw [if_pos hw] at h; exact Or.inl h
  · rename_i hw; rw [if_neg hw] at h; exact h
theorem put_same (a : Act) (d : Nat) (v : Value) (h : d < a.tmps.size) : (a.put (some d) v).eval (.tmp d) = v := by
  simp [Act.put, Act.eval, h]
theorem put_ne (a : Act) (d : Nat) (v : Value) (x : Nat) (h : d ≠ x) : (a.put (some d) v).eval (.tmp x) = a.eval (.tmp x) := by
  simp [Act.put, Act.eval, h]
theorem put_size (a : Act) (d : Option Nat) (v : Value) : (a.put d v).tmps.size = a.tmps.size := by cases d <;> simp [Act.put]
end
end Go.Proofs.YtlblfblkallnhaaGreatDoor
