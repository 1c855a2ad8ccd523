/- Timetables as plain data: which are right, which trip a train has, how long a route takes, what a delay is. -/
import Derived.Test.YtaedelcbioiogaaCod
namespace Go.Proofs.Ytaedelcbioiogaa
set_option linter.unusedVariables false
set_option linter.unusedSimpArgs false
/-- A stop: its route, when it is due, how long it runs, its weight. -/
abbrev Stp := Int × Int × Int × Int
/-- A trip: its train and its stops. -/
abbrev Trp := Int × List Stp
abbrev Sl := Option Addr × Nat × Nat
/-- A route: its cells. -/
structure Rte where
  nm : ByteArray
  entry : Int
  exit : Int
  s3 : Sl
  s4 : Sl
  s5 : Sl
  appr : Int
  len : Int
  s8 : Sl
  s9 : Sl
  s10 : Sl
  s11 : Sl
  s12 : Sl
  s13 : Sl
def nr : Rte := ⟨ByteArray.empty, 0, 0, (none, 0, 0), (none, 0, 0), (none, 0, 0), 0, 0, (none, 0, 0), (none, 0, 0), (none, 0, 0), (none, 0, 0), (none, 0, 0), (none, 0, 0)⟩
def ns : Stp := (0, 0, 0, 0)
def nt : Trp := (0, [])
def stpB (n : Nat) (s : Stp) : Bool := decide (0 ≤ s.1 ∧ s.1 < n ∧ 0 ≤ s.2.1 ∧ s.2.1 ≤ 1073741824 ∧ 1 ≤ s.2.2.1 ∧ s.2.2.1 ≤ 1000 ∧ 0 ≤ s.2.2.2 ∧ s.2.2.2 ≤ 100)
def trainB (k : Int) : Bool := decide (1 ≤ k ∧ k ≤ 99)
def trpB (n : Nat) (p : Trp) : Bool := trainB p.1 && p.2.all (stpB n)
def lenB (p : Trp) : Bool := decide (1 ≤ p.2.length ∧ p.2.length ≤ 4)
def tripOf (l : List Trp) (k : Int) : Int := match l.findIdx? (fun p => p.1 == k) with
  | some i => i
  | none => -1
def dupB (l : List Trp) (i : Nat) : Bool := (l.take i).any fun q => q.1 == (l.getD i nt).1
def folR (a b : Rte) : Bool := decide (0 ≤ a.exit ∧ b.entry = a.exit)
def folB (R : List Rte) (a b : Stp) : Bool := folR (R.getD a.1.toNat nr) (R.getD b.1.toNat nr)
def ordB (a b : Stp) : Bool := decide (a.2.1 < b.2.1)
/-- A relation between each of the first k elements and the one behind it. -/
def adjB (f : Stp → Stp → Bool) (l : List Stp) (k : Nat) : Bool := (List.range k).all fun j => f (l.getD j ns) (l.getD (j + 1) ns)
theorem adjB_succ (f : Stp → Stp → Bool) (l : List Stp) (k : Nat) : adjB f l (k + 1) = (adjB f l k && f (l.getD k ns) (l.getD (k + 1) ns)) := by simp [adjB, List.range_succ]
theorem adjB_false {f : Stp → Stp → Bool} {l : List Stp} {k n : Nat} (hk : k < n) (h : f (l.getD k ns) (l.getD (k + 1) ns) = false) : adjB f l n = false := by
  unfold adjB
  rw [List.all_eq_false]
  exact ⟨k, by simp [hk], by simpa using h⟩
def dupsB (l : List Trp) (k : Nat) : Bool := (List.range k).all fun i => !dupB l i
theorem dupsB_succ (l : List Trp) (k : Nat) : dupsB l (k + 1) = (dupsB l k && !dupB l k) := by simp [dupsB, List.range_succ]
theorem dupsB_false {l : List Trp} {k n : Nat} (hk : k < n) (h : dupB l k = true) : dupsB l n = false := by
  unfold dupsB
  rw [List.all_eq_false]
  exact ⟨k, by simp [hk], by simp [h]⟩
def chk (R : List Rte) (l : List Trp) : Int :=
  if 4 < l.length then 2 else if l.all lenB = false then 2 else if l.all (trpB R.length) = false then 1 else if dupsB l l.length = false then 8
  else if (l.all fun p => adjB (folB R) p.2 (p.2.length - 1)) = false then 10 else if (l.all fun p => adjB ordB p.2 (p.2.length - 1)) = false then 7 else 0
theorem all_take {α : Type} (p : α → Bool) {l : List α} {k : Nat} (h : k < l.length) : (l.take (k + 1)).all p = ((l.take k).all p && p l[k]) := by
  rw [List.take_succ_eq_append_getElem h, List.all_append]
  simp
theorem all_no {α : Type} {p : α → Bool} {l : List α} {k : Nat} (h : k < l.length) (hf : p l[k] = false) : l.all p = false := by
  rw [List.all_eq_false]
  exact ⟨l[k], List.getElem_mem h, by simp [hf]⟩
theorem any_take {α : Type} (p : α → Bool) {l : List α} {k : Nat} (h : k < l.length) : (l.take (k + 1)).any p = ((l.take k).any p || p l[k]) := by
  rw [List.take_succ_eq_append_getElem h, List.any_append]
  simp
theorem all_at {α : Type} {p : α → Bool} {l : List α} (h : l.all p = true) {k : Nat} (hk : k < l.length) : p l[k] = true := by
  rw [List.all_eq_true] at h
  exact h _ (List.getElem_mem hk)
/-! ### The trip of a train -/
theorem tripOf_none {l : List Trp} {k : Int} (h : l.any (fun p => p.1 == k) = false) : tripOf l k = -1 := by
  have : l.findIdx? (fun p => p.1 == k) = none := by
    rw [List.findIdx?_eq_none_iff]
    intro x hx
    rw [List.any_eq_false] at h
    simpa using h x hx
  unfold tripOf
  rw [this]
theorem tripOf_some {l : List Trp} {k : Int} {i : Nat} (hi : i < l.length) (h : (l.take i).any (fun p => p.1 == k) = false) (he : l[i].1 = k) : tripOf l k = i := by
  have : l.findIdx? (fun p => p.1 == k) = some i := by
    rw [List.findIdx?_eq_some_iff_getElem]
    refine ⟨hi, by simp [he], fun j hj => ?_⟩
    rw [List.any_eq_false] at h
    have hm : l[j] ∈ l.take i := by
      rw [List.mem_iff_getElem]
      exact ⟨j, by simp; omega, by simp⟩
    simpa using h _ hm
  unfold tripOf
  rw [this]
/-- A train's trip is the first one: so a train has one trip exactly if the trip of each trip's train is that trip. -/
theorem dup_trip {l : List Trp} {i : Nat} (hi : i < l.length) : dupB l i = !(tripOf l l[i].1 == (i : Int)) := by
  unfold dupB
  have hd : l.getD i nt = l[i] := by simp [hi]
  rw [hd]
  cases h : (l.take i).any (fun q => q.1 == l[i].1) with
  | false => rw [tripOf_some hi h rfl]; simp
  | true =>
    rw [List.any_eq_true] at h
    obtain ⟨x, hx, he⟩ := h
    obtain ⟨j, hj, rfl⟩ := List.getElem_of_mem hx
    simp at hj he
    have : ∃ m : Nat, m ≤ j ∧ tripOf l l[i].1 = (m : Int) := by
      have hs : (l.findIdx? (fun p => p.1 == l[i].1)).isSome = true := by
        rw [List.findIdx?_isSome, List.any_eq_true]
        exact ⟨l[i], List.getElem_mem hi, by simp⟩
      obtain ⟨m, hm⟩ := Option.isSome_iff_exists.1 hs
      refine ⟨m, ?_, by unfold tripOf; rw [hm]⟩
      rw [List.findIdx?_eq_some_iff_getElem] at hm
      obtain ⟨hm1, hm2, hm3⟩ := hm
      have hnl : ¬ j < m := fun hlt => by
        have := hm3 j hlt
        simp [he] at this
      omega
    obtain ⟨m, hm, e⟩ := this
    rw [e]
    have : ((m : Int) == (i : Int)) = false := by rw [beq_eq_false_iff_ne]; omega
    simp [this]
/-! ### How long a route takes -/
def needOf (speed delay len v : Int) : Int := if len < 1 ∨ min speed v < 1 then 0 else (min len 1073741824 - 1) / (min speed v) + 1 + max 0 (min delay 5)
/-- The quotient rounded up. -/
theorem ceil_eq {a b : Int} (ha : 1 ≤ a) (hb : 1 ≤ b) : (a - 1) / b + 1 = a / b + (if a % b = 0 then 0 else 1) := by
  have h1 := Int.emod_add_mul_ediv a b
  have h2 := Int.emod_nonneg a (show b ≠ 0 by omega)
  have h3 := Int.emod_lt_of_pos a (show 0 < b by omega)
  by_cases h : a % b = 0
  · rw [if_pos h]
    have : (a - 1) / b = a / b - 1 := by
      rw [Int.ediv_eq_iff_of_pos (by omega)]
      rw [h] at h1
      constructor
      · rw [Int.sub_mul, Int.mul_comm]; omega
      · rw [Int.sub_mul, Int.mul_comm]; omega
    omega
  · rw [if_neg h]
    have : (a - 1) / b = a / b := by
      rw [Int.ediv_eq_iff_of_pos (by omega)]
      constructor
      · rw [Int.mul_comm]; omega
      · rw [Int.mul_comm]; omega
    omega
/-! ### The delay -/
/-- The stops of a trip with the starts of it, in order. -/
def pairs (l : List Trp) (s : List (List Int)) : List (Stp × Int) := (l.zip s).flatMap fun x => x.1.2.zip x.2
def argB (x : Stp × Int) : Bool := decide (0 ≤ x.2 ∧ x.2 ≤ 2147483648 ∧ 0 ≤ x.1.2.1 ∧ x.1.2.1 ≤ 1073741824 ∧ 0 ≤ x.1.2.2.2 ∧ x.1.2.2.2 ≤ 100)
def lateB (x : Stp × Int) : Bool := decide (x.1.2.1 ≤ x.2)
def costOf (x : Stp × Int) : Int := x.1.2.2.2 * (x.2 - x.1.2.1)
def sumOf (l : List (Stp × Int)) : Int := (l.map costOf).sum
def shapeB (l : List Trp) (s : List (List Int)) : Bool := decide (l.length = s.length) && (l.zip s).all fun x => decide (x.1.2.length = x.2.length)
def delayOf (l : List Trp) (s : List (List Int)) : Int × Int :=
  if shapeB l s = false then (0, 1) else if (pairs l s).all argB = false then (0, 1) else if (pairs l s).all lateB = false then (0, 7) else (sumOf (pairs l s), 0)
def fewB (l : List Trp) : Bool := decide (l.length ≤ 20) && l.all fun p => decide (p.2.length ≤ 20)
end Go.Proofs.Ytaedelcbioiogaa
