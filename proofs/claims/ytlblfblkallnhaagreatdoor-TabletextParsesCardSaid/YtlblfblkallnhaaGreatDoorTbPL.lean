/- The plain content of chapter 17: tables, their check, their text. The plain laws of chapter 17. The reference's way of reading lists of a route, in plain words. -/
import Derived.Test.YtlblfblkallnhaaGreatDoorWdPN
namespace Go.Proofs.YtlblfblkallnhaaGreatDoor
set_option linter.unusedVariables false
set_option linter.unusedSimpArgs false
open Go.RowKit
/-! ### The data -/
structure Stp where
  el : Int
  inn : Int
  out : Int
deriving DecidableEq
structure Stg where
  el : Int
  pos : Int
deriving DecidableEq
structure End2 where
  el : Int
  sd : Int
deriving DecidableEq
structure Rou where
  name : List UInt8
  ent : Int
  ext : Int
  app : Int
  len : Int
  path : List Stp
  pts : List Stg
  secs : List Int
  over : List Stp
  opts : List Stg
  osecs : List Int
  flk : List Stg
  grd : List Int
  gap : List End2
deriving DecidableEq
structure Tab where
  rts : List Rou
  pts : List Int
  homes : List Int
  nsec : Int
  nsig : Int
deriving DecidableEq
def zT : Tab := ⟨[], [], [], 0, 0⟩
def inB (n lo hi : Int) : Bool := decide (lo ≤ n) && decide (n ≤ hi)
theorem inB_iff {n lo hi : Int} : inB n lo hi = true ↔ lo ≤ n ∧ n ≤ hi := by simp [inB]
/-! ### The check -/
def limB (t : Tab) : Bool := decide (t.rts.length ≤ 48) && (decide (t.pts.length ≤ 32) && (inB t.nsec 0 24 && inB t.nsig 0 20))
def ptB (t : Tab) (i : Nat) : Bool := decide (0 ≤ t.pts.getD i 0) && ((decide (i = 0) || decide (t.pts.getD (i - 1) 0 < t.pts.getD i 0)) && inB (t.homes.getD i 0) 0 (t.nsec - 1))
def ptsB (t : Tab) : Bool := decide (t.homes.length = t.pts.length) && (List.range t.pts.length).all (ptB t)
def sscB (t : Tab) (l : List Int) : Bool := (l.all fun s => inB s 0 (t.nsec - 1)) && decide l.Nodup
def rouB (t : Tab) (r : Rou) : Bool := inB r.ent 0 (t.nsig - 1) && (inB r.ext (-1) (t.nsig - 1) && ((decide (1 ≤ r.path.length) && decide (r.path.length ≤ 12)) && ((decide (r.secs ≠ []) && sscB t (r.secs ++ r.osecs)) && (inB r.app 0 (t.nsec - 1) && decide (1 ≤ r.len)))))
def zG : Stg := ⟨0, 0⟩
def stB (t : Tab) (l : List Stg) (i : Nat) : Bool := decide ((l.getD i zG).el ∈ t.pts) && ((decide ((l.getD i zG).pos = 1) || decide ((l.getD i zG).pos = 2)) && (decide (i = 0) || decide ((l.getD (i - 1) zG).el < (l.getD i zG).el)))
def stsB (t : Tab) (l : List Stg) : Bool := (List.range l.length).all (stB t l)
def setB (t : Tab) (r : Rou) : Bool := stsB t r.pts && (stsB t r.opts && stsB t r.flk)
def agrB (a b : List Stg) : Bool := a.all fun x => b.all fun y => !(decide (x.el = y.el) && decide (x.pos ≠ y.pos))
def agB (r : Rou) : Bool := agrB r.pts r.opts && (agrB r.pts r.flk && agrB r.opts r.flk)
def chkT (t : Tab) : Int := if limB t = false then 2 else if ptsB t = false then 1 else if t.rts.all (rouB t) = false then 1 else if t.rts.all (setB t) = false then 1 else if t.rts.all agB = false then 10 else if decide (t.rts.map Rou.name).Nodup = false then 8 else 0
theorem chkT_ok {t : Tab} (h : chkT t = 0) : limB t = true ∧ ptsB t = true ∧ t.rts.all (rouB t) = true ∧ t.rts.all (setB t) = true ∧ t.rts.all agB = true ∧ (t.rts.map Rou.name).Nodup := by
  unfold chkT at h
  repeat' (split at h)
  all_goals first
    | (exfalso; omega)
    | simp_all
/-! ### The text -/
def tableW : List UInt8 := [116, 97, 98, 108, 101]
def pointW : List UInt8 := [112, 111, 105, 110, 116]
def routeW : List UInt8 := [114, 111, 117, 116, 101]
def pathW : List UInt8 := [112, 97, 116, 104]
def pointsW : List UInt8 := [112, 111, 105, 110, 116, 115]
def sectionsW : List UInt8 := [115, 101, 99, 116, 105, 111, 110, 115]
def overW : List UInt8 := [111, 118, 101, 114]
def overpointsW : List UInt8 := [111, 118, 101, 114, 112, 111, 105, 110, 116, 115]
def oversectionsW : List UInt8 := [111, 118, 101, 114, 115, 101, 99, 116, 105, 111, 110, 115]
def flankW : List UInt8 := [102, 108, 97, 110, 107]
def guardsW : List UInt8 := [103, 117, 97, 114, 100, 115]
def gapsW : List UInt8 := [103, 97, 112, 115]
def stpN (s : Stp) : List Int := [s.el, s.inn, s.out]
def stgN (s : Stg) : List Int := [s.el, s.pos]
def endN (s : End2) : List Int := [s.el, s.sd]
def lstW (w : List UInt8) (l : List (List UInt8)) : Lns := if l = [] then [] else [w :: l]
def stpsW (l : List Stp) : List (List UInt8) := l.map fun s => fmtF (stpN s)
def stgsW (l : List Stg) : List (List UInt8) := l.map fun s => fmtF (stgN s)
def endsW (l : List End2) : List (List UInt8) := l.map fun s => fmtF (endN s)
def numsW (l : List Int) : List (List UInt8) := l.map Lib.itoa
def listsR (r : Rou) : Lns :=
  lstW pathW (stpsW r.path) ++ (lstW pointsW (stgsW r.pts) ++ (lstW sectionsW (numsW r.secs) ++ (lstW overW (stpsW r.over) ++ (lstW overpointsW (stgsW r.opts) ++ (lstW oversectionsW (numsW r.osecs) ++ (lstW flankW (stgsW r.flk) ++ (lstW guardsW (numsW r.grd) ++ lstW gapsW (endsW r.gap))))))))
def rhead (r : Rou) : List (List UInt8) := [routeW, r.name, Lib.itoa r.ent, Lib.itoa r.ext, Lib.itoa r.app, Lib.itoa r.len]
def rouW (r : Rou) : Lns := rhead r :: listsR r
def ptW (p : Int × Int) : List (List UInt8) := [pointW, Lib.itoa p.1, Lib.itoa p.2]
def thead (t : Tab) : List (List UInt8) := [tableW, Lib.itoa t.nsec, Lib.itoa t.nsig]
def linesT (t : Tab) : Lns := thead t :: ((t.pts.zip t.homes).map ptW ++ t.rts.flatMap rouW)
def prtT (t : Tab) : List UInt8 × Int := if chkT t = 0 then joinF (linesT t) else ([], chkT t)
/-! ### Reading -/
def rankF (w : List UInt8) : Int := if w = tableW then 1 else if w = pointW then 2 else if w = routeW then 3 else if w = pathW then 4 else if w = pointsW then 5 else if w = sectionsW then 6 else if w = overW then 7 else if w = overpointsW then 8 else if w = oversectionsW then 9 else if w = flankW then 10 else if w = guardsW then 11 else if w = gapsW then 12 else 0
def optI (l : List (List UInt8)) : Option (List Int) := if (l.all fun w => decide ((intF w).2 = 0)) = true then some (l.map fun w => (intF w).1) else none
def partB (n : Nat) (w : List UInt8) : Bool := decide ((listF w).2 = 0) && decide ((listF w).1.length = n)
def optP (n : Nat) (l : List (List UInt8)) : Option (List (List Int)) := if l.all (partB n) = true then some (l.map fun w => (listF w).1) else none
def mkStp (l : List Int) : Stp := ⟨l.getD 0 0, l.getD 1 0, l.getD 2 0⟩
def mkStg (l : List Int) : Stg := ⟨l.getD 0 0, l.getD 1 0⟩
def mkEnd (l : List Int) : End2 := ⟨l.getD 0 0, l.getD 1 0⟩
def optS (l : List (List UInt8)) : Option (List Stp) := (optP 3 l).map fun x => x.map mkStp
def optG (l : List (List UInt8)) : Option (List Stg) := (optP 2 l).map fun x => x.map mkStg
def optE (l : List (List UInt8)) : Option (List End2) := (optP 2 l).map fun x => x.map mkEnd
def listR (r : Rou) (k : Int) (a : List (List UInt8)) : Option Rou :=
  if k = 4 then (optS a).map fun x => { r with path := x }
  else if k = 5 then (optG a).map fun x => { r with pts := x }
  else if k = 6 then (optI a).map fun x => { r with secs := x }
  else if k = 7 then (optS a).map fun x => { r with over := x }
  else if k = 8 then (optG a).map fun x => { r with opts := x }
  else if k = 9 then (optI a).map fun x => { r with osecs := x }
  else if k = 10 then (optG a).map fun x => { r with flk := x }
  else if k = 11 then (optI a).map fun x => { r with grd := x }
  else if k = 12 then (optE a).map fun x => { r with gap := x }
  else none
def zR : Rou := ⟨[], 0, 0, 0, 0, [], [], [], [], [], [], [], [], []⟩
def headT (t : Tab) (a : List (List UInt8)) : Option Tab := if a.length = 2 then (optI a).map fun n => { t with nsec := n.getD 0 0, nsig := n.getD 1 0 } else none
def pointT (t : Tab) (a : List (List UInt8)) : Option Tab := if a.length = 2 then (optI a).map fun n => { t with pts := t.pts ++ [n.getD 0 0], homes := t.homes ++ [n.getD 1 0] } else none
def routeT (t : Tab) (a : List (List UInt8)) : Option Tab := if a.length = 5 then (optI a.tail).map fun n => { t with rts := t.rts ++ [{ zR with name := a.headD [], ent := n.getD 0 0, ext := n.getD 1 0, app := n.getD 2 0, len := n.getD 3 0 }] } else none
def listT (t : Tab) (k : Int) (a : List (List UInt8)) : Option Tab := if a = [] then none else (listR (t.rts.getLastD zR) k a).map fun r => { t with rts := t.rts.dropLast ++ [r] }
def follB (p k : Int) : Bool := if k = 0 then false else if k = 1 then decide (p = 0) else if k = 2 then decide (p = 1) || decide (p = 2) else if k = 3 then decide (1 ≤ p) else decide (3 ≤ p) && decide (p < k)
def takeT (t : Tab) (k : Int) (a : List (List UInt8)) : Option Tab := if k = 1 then headT t a else if k = 2 then pointT t a else if k = 3 then routeT t a else listT t k a
def stepT (t : Tab) (p : Int) (ln : List (List UInt8)) : Option Tab := if follB p (rankF (ln.headD [])) = true then takeT t (rankF (ln.headD [])) ln.tail else none
def readT : Tab → Int → Nat → Lns → Tab × Nat × Int
  | t, _, _, [] => (t, 0, 0)
  | t, p, n, ln :: r => match stepT t p ln with
    | some t' => readT t' (rankF (ln.headD [])) (n + 1) r
    | none => (zT, n + 1, 4)
def endT (r : Tab × Nat × Int) : Tab × Nat × Int := if r.2.2 = 0 then (if chkT r.1 = 0 then (r.1, 0, 0) else (zT, 0, chkT r.1)) else r
def parT (s : List UInt8) : Tab × Nat × Int :=
  if (linesF s).2.2 = 0 then (if (linesF s).1 = [] then (zT, 1, 4) else endT (readT zT 0 0 (linesF s).1)) else (zT, (linesF s).2.1, (linesF s).2.2)
end Go.Proofs.YtlblfblkallnhaaGreatDoor
namespace Go.Proofs.YtlblfblkallnhaaGreatDoor
set_option linter.unusedVariables false
set_option linter.unusedSimpArgs false
open Go.RowKit
/-! ### Words and numbers -/
theorem optI_ok {a : List (List UInt8)} {n : List Int} (h : optI a = some n) : numsW n = a ∧ I64s n := by
  unfold optI at h
  split at h
  · rename_i ha
    rw [List.all_eq_true] at ha
    simp only [Option.some.injEq] at h
    subst h
    refine ⟨?_, ?_⟩
    · unfold numsW
      rw [List.map_map]
      conv => rhs; rw [← List.map_id a]
      refine List.map_congr_left fun w hw => ?_
      have h2 : (intF w).2 = 0 := by simpa using ha w hw
      exact (itoa_int (s := w) (n := (intF w).1) (by rw [← h2])).1
    · intro m hm
      obtain ⟨w, hw, rfl⟩ := List.mem_map.1 hm
      have h2 : (intF w).2 = 0 := by simpa using ha w hw
      exact (itoa_int (s := w) (n := (intF w).1) (by rw [← h2])).2
  · cases h
theorem optI_len {a : List (List UInt8)} {n : List Int} (h : optI a = some n) : n.length = a.length := by
  rw [← (optI_ok h).1]; simp [numsW]
theorem optP_ok {k : Nat} {a : List (List UInt8)} {xs : List (List Int)} (h : optP k a = some xs) : xs.map fmtF = a ∧ ∀ x ∈ xs, I64s x ∧ x.length = k := by
  unfold optP at h
  split at h
  · rename_i ha
    rw [List.all_eq_true] at ha
    simp only [Option.some.injEq] at h
    subst h
    have key : ∀ w ∈ a, (listF w).2 = 0 ∧ (listF w).1.length = k := fun w hw => by simpa [partB] using ha w hw
    refine ⟨?_, ?_⟩
    · rw [List.map_map]
      conv => rhs; rw [← List.map_id a]
      exact List.map_congr_left fun w hw => (fmt_list (s := w) (a := (listF w).1) (by rw [← (key w hw).1])).1
    · intro x hx
      obtain ⟨w, hw, rfl⟩ := List.mem_map.1 hx
      exact ⟨(fmt_list (s := w) (a := (listF w).1) (by rw [← (key w hw).1])).2, (key w hw).2⟩
  · cases h
section
variable {α : Type} {k : Nat} {mk : List Int → α} {nn : α → List Int}
end
/-! ### What is in range -/
/-! ### Runs over lines -/
def runT : Tab → Int → Lns → Option (Tab × Int)
  | t, p, [] => some (t, p)
  | t, p, ln :: r => (stepT t p ln).bind fun t' => runT t' (rankF (ln.headD [])) r
/-- Where reading fails: the first line that no step takes. -/
theorem read_bad : ∀ (l : Lns) (t u : Tab) (p : Int) (n k : Nat) (e : Int), readT t p n l = (u, k, e) → e ≠ 0 → u = zT ∧ e = 4 ∧ ∃ a ln b t' q, l = a ++ ln :: b ∧ k = n + a.length + 1 ∧ runT t p a = some (t', q) ∧ stepT t' q ln = none
  | [], t, u, p, n, k, e, h, he => by
    simp only [readT, Prod.mk.injEq] at h
    exact absurd h.2.2.symm he
  | ln :: r, t, u, p, n, k, e, h, he => by
    simp only [readT] at h
    cases hs : stepT t p ln with
    | none =>
      rw [hs] at h
      simp only [Prod.mk.injEq] at h
      obtain ⟨rfl, rfl, rfl⟩ := h
      exact ⟨rfl, rfl, [], ln, r, t, p, rfl, rfl, rfl, hs⟩
    | some t' =>
      rw [hs] at h
      obtain ⟨h1, h2, a, ln', b, t2, q, h3, h4, h5, h6⟩ := read_bad r t' u _ (n + 1) k e h he
      subst h3
      exact ⟨h1, h2, ln :: a, ln', b, t2, q, rfl, by rw [h4, List.length_cons]; omega, by simp only [runT, hs]; exact h5, h6⟩
/-! ### A table's lines are read back -/
theorem pts_len {t : Tab} (h : chkT t = 0) : t.homes.length = t.pts.length := by
  have := (chkT_ok h).2.1
  unfold ptsB at this
  simp only [Bool.and_eq_true, decide_eq_true_eq] at this
  exact this.1
/-! ### What was read is what the lines say -/
theorem rank_word {w : List UInt8} {k : Int} (h : rankF w = k) (hk : k ≠ 0) : (k = 1 ∧ w = tableW) ∨ (k = 2 ∧ w = pointW) ∨ (k = 3 ∧ w = routeW) ∨ (k = 4 ∧ w = pathW) ∨ (k = 5 ∧ w = pointsW) ∨ (k = 6 ∧ w = sectionsW) ∨ (k = 7 ∧ w = overW) ∨ (k = 8 ∧ w = overpointsW) ∨ (k = 9 ∧ w = oversectionsW) ∨ (k = 10 ∧ w = flankW) ∨ (k = 11 ∧ w = guardsW) ∨ (k = 12 ∧ w = gapsW) := by
  unfold rankF at h
  by_cases c0 : w = tableW
  · rw [if_pos c0] at h
    exact Or.inl ⟨h.symm, c0⟩
  rw [if_neg c0] at h
  refine Or.inr ?_
  by_cases c1 : w = pointW
  · rw [if_pos c1] at h
    exact Or.inl ⟨h.symm, c1⟩
  rw [if_neg c1] at h
  refine Or.inr ?_
  by_cases c2 : w = routeW
  · rw [if_pos c2] at h
    exact Or.inl ⟨h.symm, c2⟩
  rw [if_neg c2] at h
  refine Or.inr ?_
  by_cases c3 : w = pathW
  · rw [if_pos c3] at h
    exact Or.inl ⟨h.symm, c3⟩
  rw [if_neg c3] at h
  refine Or.inr ?_
  by_cases c4 : w = pointsW
  · rw [if_pos c4] at h
    exact Or.inl ⟨h.symm, c4⟩
  rw [if_neg c4] at h
  refine Or.inr ?_
  by_cases c5 : w = sectionsW
  · rw [if_pos c5] at h
    exact Or.inl ⟨h.symm, c5⟩
  rw [if_neg c5] at h
  refine Or.inr ?_
  by_cases c6 : w = overW
  · rw [if_pos c6] at h
    exact Or.inl ⟨h.symm, c6⟩
  rw [if_neg c6] at h
  refine Or.inr ?_
  by_cases c7 : w = overpointsW
  · rw [if_pos c7] at h
    exact Or.inl ⟨h.symm, c7⟩
  rw [if_neg c7] at h
  refine Or.inr ?_
  by_cases c8 : w = oversectionsW
  · rw [if_pos c8] at h
    exact Or.inl ⟨h.symm, c8⟩
  rw [if_neg c8] at h
  refine Or.inr ?_
  by_cases c9 : w = flankW
  · rw [if_pos c9] at h
    exact Or.inl ⟨h.symm, c9⟩
  rw [if_neg c9] at h
  refine Or.inr ?_
  by_cases c10 : w = guardsW
  · rw [if_pos c10] at h
    exact Or.inl ⟨h.symm, c10⟩
  rw [if_neg c10] at h
  refine Or.inr ?_
  by_cases c11 : w = gapsW
  · rw [if_pos c11] at h
    exact ⟨h.symm, c11⟩
  rw [if_neg c11] at h
  exact absurd h.symm hk
/-! ### How many lines -/
/-! ### The first error -/
theorem par_lines_bad {s : List UInt8} {m : Lns} {a : Nat} {f : Int} (h : linesF s = (m, a, f)) (hf : f ≠ 0) : parT s = (zT, a, f) := by
  unfold parT
  rw [h]
  simp only
  rw [if_neg hf]
theorem par_empty {s : List UInt8} {a : Nat} (h : linesF s = ([], a, 0)) : parT s = (zT, 1, 4) := by
  unfold parT
  rw [h]
  simp
theorem par_read {s : List UInt8} {m : Lns} {a : Nat} (h : linesF s = (m, a, 0)) (hm : m ≠ []) : parT s = endT (readT zT 0 0 m) := by
  unfold parT
  rw [h]
  simp [hm]
/-! ### Commas -/
def commas (s : List UInt8) : Nat := (s.filter fun c => decide (c = 44)).length
theorem spl_commas : ∀ s : List UInt8, (spl 44 s).length = commas s + 1
  | [] => rfl
  | c :: r => by
    have ih := spl_commas r
    unfold commas at ih ⊢
    unfold spl
    by_cases h : c = 44
    · subst h
      simp [ih]
    · simp [h, ih]
theorem listK_len : ∀ (ps : List (List UInt8)) (acc a : List Int), listK acc ps = (a, 0) → a.length = acc.length + ps.length := fun ps acc a h => by
  obtain ⟨b, rfl, h2, _⟩ := listK_ok ps acc a h
  rw [List.length_append, ← h2, List.length_map]
/-- A word whose commas are not one less than k has no list of k numbers. -/
theorem part_commas {k : Nat} (hk : 1 ≤ k) {w : List UInt8} (h : partB k w = true) : commas w = k - 1 := by
  unfold partB at h
  simp only [Bool.and_eq_true, decide_eq_true_eq] at h
  obtain ⟨h1, h2⟩ := h
  unfold listF at h1 h2
  split at h1
  · rename_i hw
    rw [if_pos hw] at h2
    simp at h2
    omega
  · rename_i hw
    rw [if_neg hw] at h2
    have := listK_len (spl 44 w) [] (listK [] (spl 44 w)).1 (by rw [← h1])
    rw [spl_commas, h2] at this
    simp at this
    omega
/-! ### The check, step by step -/
theorem chkT_lim {t : Tab} (h : limB t = false) : chkT t = 2 := by unfold chkT; rw [if_pos h]
theorem chkT_pts {t : Tab} (h1 : limB t = true) (h : ptsB t = false) : chkT t = 1 := by unfold chkT; rw [if_neg (by simp [h1]), if_pos h]
theorem chkT_rou {t : Tab} (h1 : limB t = true) (h2 : ptsB t = true) (h : t.rts.all (rouB t) = false) : chkT t = 1 := by unfold chkT; rw [if_neg (by simp [h1]), if_neg (by simp [h2]), if_pos h]
theorem chkT_set {t : Tab} (h1 : limB t = true) (h2 : ptsB t = true) (h : t.rts.all (setB t) = false) : chkT t = 1 := by
  unfold chkT
  rw [if_neg (by simp [h1]), if_neg (by simp [h2])]
  by_cases h3 : t.rts.all (rouB t) = false
  · rw [if_pos h3]
  · rw [if_neg h3, if_pos h]
theorem chkT_agr {t : Tab} (h1 : limB t = true) (h2 : ptsB t = true) (h3 : t.rts.all (rouB t) = true) (h4 : t.rts.all (setB t) = true) (h : t.rts.all agB = false) : chkT t = 10 := by
  unfold chkT
  rw [if_neg (by simp [h1]), if_neg (by simp [h2]), if_neg (by rw [h3]; simp), if_neg (by rw [h4]; simp), if_pos h]
theorem chkT_dup {t : Tab} (h1 : limB t = true) (h2 : ptsB t = true) (h3 : t.rts.all (rouB t) = true) (h4 : t.rts.all (setB t) = true) (h5 : t.rts.all agB = true) (h : ¬ (t.rts.map Rou.name).Nodup) : chkT t = 8 := by
  unfold chkT
  rw [if_neg (by simp [h1]), if_neg (by simp [h2]), if_neg (by rw [h3]; simp), if_neg (by rw [h4]; simp), if_neg (by rw [h5]; simp), if_pos (decide_eq_false h)]
theorem chkT_all {t : Tab} (h1 : limB t = true) (h2 : ptsB t = true) (h3 : t.rts.all (rouB t) = true) (h4 : t.rts.all (setB t) = true) (h5 : t.rts.all agB = true) (h : (t.rts.map Rou.name).Nodup) : chkT t = 0 := by
  unfold chkT
  rw [if_neg (by simp [h1]), if_neg (by simp [h2]), if_neg (by rw [h3]; simp), if_neg (by rw [h4]; simp), if_neg (by rw [h5]; simp), if_neg (by simp [h])]
/-- The reference's one loop over the third and the fourth condition. -/
theorem all_both {t : Tab} : (t.rts.all fun r => rouB t r && setB t r) = (t.rts.all (rouB t) && t.rts.all (setB t)) := by
  induction t.rts with
  | nil => rfl
  | cons r l ih => simp only [List.all_cons, ih]; cases rouB t r <;> cases setB t r <;> cases l.all (rouB t) <;> simp
/-- The first place of a datum in a list. -/
def fstI {α : Type} [DecidableEq α] : List α → α → Int
  | [], _ => -1
  | y :: r, x => if y = x then 0 else if fstI r x < 0 then -1 else fstI r x + 1
theorem fstI_ge {α : Type} [DecidableEq α] : ∀ (l : List α) (x : α), -1 ≤ fstI l x
  | [], _ => by simp [fstI]
  | y :: r, x => by
    have := fstI_ge r x
    unfold fstI
    split
    · omega
    · split <;> omega
theorem fstI_at {α : Type} [DecidableEq α] {l : List α} {k : Nat} (hk : k < l.length) (hn : l[k] ∉ l.take k) : fstI l l[k] = (k : Int) := by
  induction l generalizing k with
  | nil => simp at hk
  | cons y r ih =>
    cases k with
    | zero => simp [fstI]
    | succ k =>
      simp only [List.getElem_cons_succ, List.take_succ_cons, List.mem_cons, not_or] at hn ⊢
      have h := ih (k := k) (by simpa using hk) hn.2
      unfold fstI
      rw [if_neg (fun e => hn.1 e.symm), h, if_neg (by omega)]
      omega
theorem fstI_mem {α : Type} [DecidableEq α] {l : List α} {k : Nat} (hk : k < l.length) (hn : l[k] ∈ l.take k) : fstI l l[k] ≠ (k : Int) := by
  induction l generalizing k with
  | nil => simp at hk
  | cons y r ih =>
    cases k with
    | zero => simp at hn
    | succ k =>
      simp only [List.getElem_cons_succ, List.take_succ_cons, List.mem_cons] at hn ⊢
      unfold fstI
      by_cases e : y = r[k]'(by simpa using hk)
      · rw [if_pos e]; omega
      · rw [if_neg e]
        have hm : r[k]'(by simpa using hk) ∈ r.take k := by
          rcases hn with h | h
          · exact absurd h.symm e
          · exact h
        have h := ih (k := k) (by simpa using hk) hm
        split <;> omega
theorem fstI_neg {α : Type} [DecidableEq α] {l : List α} {x : α} : fstI l x < 0 ↔ x ∉ l := by
  induction l with
  | nil => simp [fstI]
  | cons y r ih =>
    unfold fstI
    by_cases e : y = x
    · rw [if_pos e]; simp [e]
    · rw [if_neg e]
      have := fstI_ge r x
      simp only [List.mem_cons, not_or]
      constructor
      · intro h
        refine ⟨fun h2 => e h2.symm, ih.1 ?_⟩
        split at h <;> omega
      · rintro ⟨_, h⟩
        rw [if_pos (ih.2 h)]
        omega
/-! ### The reference's forms -/
theorem fmt_one (n : Int) : fmtF [n] = Lib.itoa n := by simp [fmtF, Lib.join]
theorem list_one {w : List UInt8} {n : Int} (h : intF w = (n, 0)) : listF w = ([n], 0) := by
  obtain ⟨h1, h2⟩ := itoa_int h
  rw [← h1, ← fmt_one]
  exact list_fmt [n] (fun m hm => by simp only [List.mem_singleton] at hm; subst hm; exact h2)
theorem one_list {w : List UInt8} {n : Int} (h : listF w = ([n], 0)) : intF w = (n, 0) := by
  obtain ⟨h1, h2⟩ := fmt_list h
  have h3 := h2 n (by simp)
  rw [← h1, fmt_one]
  exact int_itoa n h3.1 h3.2
/-- A list of one number is a number. -/
theorem part_int (w : List UInt8) : partB 1 w = decide ((intF w).2 = 0) := by
  rw [Bool.eq_iff_iff]
  unfold partB
  simp only [Bool.and_eq_true, decide_eq_true_eq]
  constructor
  · rintro ⟨h1, h2⟩
    obtain ⟨n, hn⟩ := List.length_eq_one_iff.1 h2
    have h3 : listF w = ([n], 0) := by rw [← hn, ← h1]
    rw [one_list h3]
  · intro h
    have h3 := list_one (w := w) (n := (intF w).1) (by rw [← h])
    rw [h3]
    exact ⟨rfl, rfl⟩
theorem part_val {w : List UInt8} (h : (intF w).2 = 0) : (listF w).1 = [(intF w).1] := by rw [list_one (w := w) (n := (intF w).1) (by rw [← h])]
/-- The reference's order of forms, its ranks being one less. -/
def rfoll (b k : Int) : Bool := if b < 2 then decide (k = 1) || decide (k = 2) else decide (k = 2) || decide (b < k)
theorem foll_r {p k : Int} (hp : 0 ≤ p) (hk : 0 ≤ k) : follB p k = if p = 0 then decide (k = 1) else rfoll (p - 1) (k - 1) := by
  rw [Bool.eq_iff_iff]
  have h1 : (follB p k = true) ↔ (k = 1 ∧ p = 0) ∨ (k = 2 ∧ (p = 1 ∨ p = 2)) ∨ (k = 3 ∧ 1 ≤ p) ∨ (4 ≤ k ∧ 3 ≤ p ∧ p < k) := by
    unfold follB
    by_cases c0 : k = 0
    · rw [if_pos c0]; simp; omega
    by_cases c1 : k = 1
    · rw [if_neg c0, if_pos c1]; simp only [decide_eq_true_eq]; omega
    by_cases c2 : k = 2
    · rw [if_neg c0, if_neg c1, if_pos c2]; simp only [Bool.or_eq_true, decide_eq_true_eq]; omega
    by_cases c3 : k = 3
    · rw [if_neg c0, if_neg c1, if_neg c2, if_pos c3]; simp only [decide_eq_true_eq]; omega
    rw [if_neg c0, if_neg c1, if_neg c2, if_neg c3]
    simp only [Bool.and_eq_true, decide_eq_true_eq]
    omega
  rw [h1]
  by_cases h0 : p = 0
  · rw [if_pos h0]; simp only [decide_eq_true_eq]; omega
  · rw [if_neg h0]
    unfold rfoll
    by_cases h2 : p - 1 < 2
    · rw [if_pos h2]; simp only [Bool.or_eq_true, decide_eq_true_eq]; omega
    · rw [if_neg h2]; simp only [Bool.or_eq_true, decide_eq_true_eq]; omega
end Go.Proofs.YtlblfblkallnhaaGreatDoor
namespace Go.Proofs.YtlblfblkallnhaaGreatDoor
set_option linter.unusedVariables false
set_option linter.unusedSimpArgs false
open Go.RowKit
def formsW : List (List UInt8) := [tableW, pointW, routeW, pathW, pointsW, sectionsW, overW, overpointsW, oversectionsW, flankW, guardsW, gapsW]
theorem rank_fst (s : List UInt8) : fstI formsW s = rankF s - 1 := by
  by_cases h0 : rankF s = 0
  · rw [h0]
    have h : s ∉ formsW := by
      intro hm
      simp only [formsW, List.mem_cons, List.not_mem_nil, or_false] at hm
      rcases hm with rfl | rfl | rfl | rfl | rfl | rfl | rfl | rfl | rfl | rfl | rfl | rfl <;> revert h0 <;> decide
    have h1 := fstI_neg.2 h
    have h2 := fstI_ge formsW s
    omega
  · obtain ⟨k, hk⟩ : ∃ k, rankF s = k := ⟨_, rfl⟩
    have := rank_word hk (by omega)
    rcases this with ⟨rfl, rfl⟩ | ⟨rfl, rfl⟩ | ⟨rfl, rfl⟩ | ⟨rfl, rfl⟩ | ⟨rfl, rfl⟩ | ⟨rfl, rfl⟩ | ⟨rfl, rfl⟩ | ⟨rfl, rfl⟩ | ⟨rfl, rfl⟩ | ⟨rfl, rfl⟩ | ⟨rfl, rfl⟩ | ⟨rfl, rfl⟩ <;> rw [hk] <;> decide
def widthF (w : List UInt8) : Nat := if w = pathW then 3 else if w = overW then 3 else if w = sectionsW then 1 else if w = oversectionsW then 1 else if w = guardsW then 1 else 2
def valsW (w : List UInt8) (a : List (List UInt8)) : Option (List Int) := if a = [] then none else (optP (widthF w) a).map List.flatten
def headsW (l : List (List UInt8)) (f n : Nat) : Option (List Int) := if l.length = f + n then optI (l.drop f) else none
def stp3 (l : List Int) (i : Nat) : Stp := ⟨l.getD (i * 3) 0, l.getD (i * 3 + 1) 0, l.getD (i * 3 + 2) 0⟩
def stg2 (l : List Int) (i : Nat) : Stg := ⟨l.getD (i * 2) 0, l.getD (i * 2 + 1) 0⟩
def end2 (l : List Int) (i : Nat) : End2 := ⟨l.getD (i * 2) 0, l.getD (i * 2 + 1) 0⟩
def pathF (l : List Int) : List Stp := (List.range (l.length / 3)).map (stp3 l)
def placesF (l : List Int) : List Stg := (List.range (l.length / 2)).map (stg2 l)
def gapsF (l : List Int) : List End2 := (List.range (l.length / 2)).map (end2 l)
def withF (r : Rou) (w : List UInt8) (l : List Int) : Rou :=
  if w = pathW then { r with path := pathF l }
  else if w = pointsW then { r with pts := placesF l }
  else if w = sectionsW then { r with secs := l }
  else if w = overW then { r with over := pathF l }
  else if w = overpointsW then { r with opts := placesF l }
  else if w = oversectionsW then { r with osecs := l }
  else if w = flankW then { r with flk := placesF l }
  else if w = guardsW then { r with grd := l }
  else if w = gapsW then { r with gap := gapsF l }
  else r
theorem flat_len3 {n : Nat} : ∀ {xs : List (List Int)}, (∀ x ∈ xs, x.length = n) → xs.flatten.length = xs.length * n
  | [], _ => by simp
  | x :: r, h => by
    have h1 := h x (by simp)
    have ih := flat_len3 (n := n) (xs := r) fun y hy => h y (by simp [hy])
    rw [List.flatten_cons, List.length_append, ih, h1, List.length_cons, Nat.succ_mul]
    omega
theorem flat_at {n : Nat} : ∀ {xs : List (List Int)}, (∀ x ∈ xs, x.length = n) → ∀ {i : Nat} (hi : i < xs.length) (j : Nat), j < n → xs.flatten.getD (i * n + j) 0 = (xs[i]).getD j 0
  | [], _, i, hi, _, _ => by simp at hi
  | x :: r, h, 0, _, j, hj => by
    have h1 := h x (by simp)
    simp only [List.flatten_cons, Nat.zero_mul, Nat.zero_add, List.getElem_cons_zero]
    rw [List.getD_eq_getElem?_getD, List.getD_eq_getElem?_getD, List.getElem?_append_left (by omega)]
  | x :: r, h, i + 1, hi, j, hj => by
    have h1 := h x (by simp)
    have ih := flat_at (n := n) (xs := r) (fun y hy => h y (by simp [hy])) (i := i) (by simpa using hi) j hj
    simp only [List.getElem_cons_succ]
    rw [← ih, List.flatten_cons, List.getD_eq_getElem?_getD, List.getD_eq_getElem?_getD, List.getElem?_append_right (by rw [Nat.succ_mul]; omega)]
    congr 2
    rw [Nat.succ_mul]
    omega
theorem grp {α : Type} {n : Nat} (hn : 0 < n) (f : List Int → Nat → α) (mk : List Int → α) {xs : List (List Int)} (h : ∀ x ∈ xs, x.length = n) (hf : ∀ i (hi : i < xs.length), f xs.flatten i = mk xs[i]) : (List.range (xs.flatten.length / n)).map (f xs.flatten) = xs.map mk := by
  rw [flat_len3 h, Nat.mul_div_cancel _ hn]
  apply List.ext_getElem
  · simp
  · intro i h1 h2
    simp only [List.length_map, List.length_range] at h1
    simp [hf i h1]
theorem path_flat {xs : List (List Int)} (h : ∀ x ∈ xs, x.length = 3) : pathF xs.flatten = xs.map mkStp :=
  grp (n := 3) (by omega) stp3 mkStp h fun i hi => by
    have h0 := flat_at h hi 0 (by omega)
    have h1 := flat_at h hi 1 (by omega)
    have h2 := flat_at h hi 2 (by omega)
    simp only [Nat.add_zero] at h0
    unfold stp3 mkStp
    rw [h0, h1, h2]
theorem places_flat {xs : List (List Int)} (h : ∀ x ∈ xs, x.length = 2) : placesF xs.flatten = xs.map mkStg :=
  grp (n := 2) (by omega) stg2 mkStg h fun i hi => by
    have h0 := flat_at h hi 0 (by omega)
    have h1 := flat_at h hi 1 (by omega)
    simp only [Nat.add_zero] at h0
    unfold stg2 mkStg
    rw [h0, h1]
theorem gaps_flat {xs : List (List Int)} (h : ∀ x ∈ xs, x.length = 2) : gapsF xs.flatten = xs.map mkEnd :=
  grp (n := 2) (by omega) end2 mkEnd h fun i hi => by
    have h0 := flat_at h hi 0 (by omega)
    have h1 := flat_at h hi 1 (by omega)
    simp only [Nat.add_zero] at h0
    unfold end2 mkEnd
    rw [h0, h1]
theorem optP_one (a : List (List UInt8)) : (optP 1 a).map List.flatten = optI a := by
  have e : ∀ l : List (List UInt8), (l.all (partB 1)) = (l.all fun w => decide ((intF w).2 = 0)) := fun l => by
    induction l with
    | nil => rfl
    | cons x r ih => rw [List.all_cons, List.all_cons, part_int, ih]
  unfold optP optI
  rw [e]
  split
  · rename_i h
    rw [Option.map_some]
    congr 1
    clear e
    induction a with
    | nil => rfl
    | cons x r ih =>
      rw [List.all_cons, Bool.and_eq_true, decide_eq_true_eq] at h
      rw [List.map_cons, List.flatten_cons, List.map_cons, ih h.2, part_val h.1]
      rfl
  · rfl
theorem list_with {r : Rou} {k : Int} {w : List UInt8} {a : List (List UInt8)} (hw : rankF w = k) (hk : 4 ≤ k) : listR r k a = (optP (widthF w) a).map fun xs => withF r w xs.flatten := by
  have hw2 : ∀ n, widthF w = n → ∀ xs, optP (widthF w) a = some xs → ∀ x ∈ xs, x.length = n := fun n hn xs hx x hm => by rw [hn] at hx; exact ((optP_ok hx).2 x hm).2
  have key3 : ∀ (f : List Stp → Rou) (g : List Int → Rou), widthF w = 3 → (∀ l, g l = f (pathF l)) → (optS a).map f = (optP (widthF w) a).map fun xs => g xs.flatten := fun f g hn hg => by
    unfold optS
    cases hx : optP (widthF w) a with
    | none => rw [hn] at hx; rw [hx]; rfl
    | some xs => have h3 := hw2 3 hn xs hx; rw [hn] at hx; rw [hx]; simp only [Option.map_some]; rw [hg, path_flat h3]
  have key2 : ∀ (f : List Stg → Rou) (g : List Int → Rou), widthF w = 2 → (∀ l, g l = f (placesF l)) → (optG a).map f = (optP (widthF w) a).map fun xs => g xs.flatten := fun f g hn hg => by
    unfold optG
    cases hx : optP (widthF w) a with
    | none => rw [hn] at hx; rw [hx]; rfl
    | some xs => have h3 := hw2 2 hn xs hx; rw [hn] at hx; rw [hx]; simp only [Option.map_some]; rw [hg, places_flat h3]
  have keyE : ∀ (f : List End2 → Rou) (g : List Int → Rou), widthF w = 2 → (∀ l, g l = f (gapsF l)) → (optE a).map f = (optP (widthF w) a).map fun xs => g xs.flatten := fun f g hn hg => by
    unfold optE
    cases hx : optP (widthF w) a with
    | none => rw [hn] at hx; rw [hx]; rfl
    | some xs => have h3 := hw2 2 hn xs hx; rw [hn] at hx; rw [hx]; simp only [Option.map_some]; rw [hg, gaps_flat h3]
  have key1 : ∀ (f : List Int → Rou) (g : List Int → Rou), widthF w = 1 → (∀ l, g l = f l) → (optI a).map f = (optP (widthF w) a).map fun xs => g xs.flatten := fun f g hn hg => by
    rw [← optP_one, hn]
    cases optP 1 a with
    | none => rfl
    | some xs => simp only [Option.map_some]; rw [hg]
  have := rank_word hw (by omega)
  rcases this with ⟨rfl, -⟩ | ⟨rfl, -⟩ | ⟨rfl, -⟩ | ⟨rfl, rfl⟩ | ⟨rfl, rfl⟩ | ⟨rfl, rfl⟩ | ⟨rfl, rfl⟩ | ⟨rfl, rfl⟩ | ⟨rfl, rfl⟩ | ⟨rfl, rfl⟩ | ⟨rfl, rfl⟩ | ⟨rfl, rfl⟩
  · omega
  · omega
  · omega
  · exact key3 (fun x => { r with path := x }) (withF r pathW) (by decide) (fun l => by unfold withF; rw [if_pos rfl])
  · exact key2 (fun x => { r with pts := x }) (withF r pointsW) (by decide) (fun l => by unfold withF; rw [if_neg (by decide), if_pos rfl])
  · exact key1 (fun x => { r with secs := x }) (withF r sectionsW) (by decide) (fun l => by unfold withF; rw [if_neg (by decide), if_neg (by decide), if_pos rfl])
  · exact key3 (fun x => { r with over := x }) (withF r overW) (by decide) (fun l => by unfold withF; rw [if_neg (by decide), if_neg (by decide), if_neg (by decide), if_pos rfl])
  · exact key2 (fun x => { r with opts := x }) (withF r overpointsW) (by decide) (fun l => by unfold withF; rw [if_neg (by decide), if_neg (by decide), if_neg (by decide), if_neg (by decide), if_pos rfl])
  · exact key1 (fun x => { r with osecs := x }) (withF r oversectionsW) (by decide) (fun l => by unfold withF; rw [if_neg (by decide), if_neg (by decide), if_neg (by decide), if_neg (by decide), if_neg (by decide), if_pos rfl])
  · exact key2 (fun x => { r with flk := x }) (withF r flankW) (by decide) (fun l => by unfold withF; rw [if_neg (by decide), if_neg (by decide), if_neg (by decide), if_neg (by decide), if_neg (by decide), if_neg (by decide), if_pos rfl])
  · exact key1 (fun x => { r with grd := x }) (withF r guardsW) (by decide) (fun l => by unfold withF; rw [if_neg (by decide), if_neg (by decide), if_neg (by decide), if_neg (by decide), if_neg (by decide), if_neg (by decide), if_neg (by decide), if_pos rfl])
  · exact keyE (fun x => { r with gap := x }) (withF r gapsW) (by decide) (fun l => by unfold withF; rw [if_neg (by decide), if_neg (by decide), if_neg (by decide), if_neg (by decide), if_neg (by decide), if_neg (by decide), if_neg (by decide), if_neg (by decide), if_pos rfl])
/-- A list's line, in the reference's words. -/
theorem listT_with {t : Tab} {k : Int} {w : List UInt8} {a : List (List UInt8)} (hw : rankF w = k) (hk : 4 ≤ k) : listT t k a = (valsW w a).map fun l => { t with rts := t.rts.dropLast ++ [withF (t.rts.getLastD zR) w l] } := by
  unfold listT valsW
  by_cases ha : a = []
  · rw [if_pos ha, if_pos ha]; rfl
  · rw [if_neg ha, if_neg ha, list_with hw hk]
    cases optP (widthF w) a <;> rfl
theorem headT_heads {t : Tab} {w : List UInt8} {a : List (List UInt8)} : headT t a = (headsW (w :: a) 1 2).map fun n => { t with nsec := n.getD 0 0, nsig := n.getD 1 0 } := by
  unfold headT headsW
  by_cases h : a.length = 2
  · rw [if_pos h, if_pos (by simp [h])]; rfl
  · rw [if_neg h, if_neg (by simp; omega)]; rfl
theorem pointT_heads {t : Tab} {w : List UInt8} {a : List (List UInt8)} : pointT t a = (headsW (w :: a) 1 2).map fun n => { t with pts := t.pts ++ [n.getD 0 0], homes := t.homes ++ [n.getD 1 0] } := by
  unfold pointT headsW
  by_cases h : a.length = 2
  · rw [if_pos h, if_pos (by simp [h])]; rfl
  · rw [if_neg h, if_neg (by simp; omega)]; rfl
theorem routeT_heads {t : Tab} {w : List UInt8} {a : List (List UInt8)} : routeT t a = (headsW (w :: a) 2 4).map fun n => { t with rts := t.rts ++ [{ zR with name := a.headD [], ent := n.getD 0 0, ext := n.getD 1 0, app := n.getD 2 0, len := n.getD 3 0 }] } := by
  unfold routeT headsW
  by_cases h : a.length = 5
  · rw [if_pos h, if_pos (by simp [h])]
    cases a with
    | nil => simp at h
    | cons x r => rfl
  · rw [if_neg h, if_neg (by simp; omega)]; rfl
theorem headsW_len {l : List (List UInt8)} {f n : Nat} {x : List Int} (h : headsW l f n = some x) : x.length = n ∧ l.length = f + n := by
  unfold headsW at h
  split at h
  · rename_i h1
    have := optI_len h
    rw [List.length_drop] at this
    exact ⟨by omega, h1⟩
  · cases h
end Go.Proofs.YtlblfblkallnhaaGreatDoor
