/- The plain content of chapter 17: tables, their check, their text. The plain laws of chapter 17. The reference's way of reading lists of a route, in plain words. -/
import Derived.Test.YtlblfblkallnhaaGreatDoorWdPN
namespace Go.Proofs.YtlblfblkallnhaaGreatDoor
set_option linter.unusedVariables false
set_option linter.unusedSimpArgs false
open Go.RowKit
/-! ### The data -/
structure Stp where
  el : Int
  inn : Int
  out : Int
deriving DecidableEq
structure Stg where
  el : Int
  pos : Int
deriving DecidableEq
structure End2 where
  el : Int
  sd : Int
deriving DecidableEq
structure Rou where
  name : List UInt8
  ent : Int
  ext : Int
  app : Int
  len : Int
  path : List Stp
  pts : List Stg
  secs : List Int
  over : List Stp
  opts : List Stg
  osecs : List Int
  flk : List Stg
  grd : List Int
  gap : List End2
deriving DecidableEq
structure Tab where
  rts : List Rou
  pts : List Int
  homes : List Int
  nsec : Int
  nsig : Int
deriving DecidableEq
def zT : Tab := ⟨[], [], [], 0, 0⟩
def inB (n lo hi : Int) : Bool := decide (lo ≤ n) && decide (n ≤ hi)
theorem inB_iff {n lo hi : Int} : inB n lo hi = true ↔ lo ≤ n ∧ n ≤ hi := by simp [inB]
/-! ### The check -/
def limB (t : Tab) : Bool := decide (t.rts.length ≤ 48) && (decide (t.pts.length ≤ 32) && (inB t.nsec 0 24 && inB t.nsig 0 20))
def ptB (t : Tab) (i : Nat) : Bool := decide (0 ≤ t.pts.getD i 0) && ((decide (i = 0) || decide (t.pts.getD (i - 1) 0 < t.pts.getD i 0)) && inB (t.homes.getD i 0) 0 (t.nsec - 1))
def ptsB (t : Tab) : Bool := decide (t.homes.length = t.pts.length) && (List.range t.pts.length).all (ptB t)
def sscB (t : Tab) (l : List Int) : Bool := (l.all fun s => inB s 0 (t.nsec - 1)) && decide l.Nodup
def rouB (t : Tab) (r : Rou) : Bool := inB r.ent 0 (t.nsig - 1) && (inB r.ext (-1) (t.nsig - 1) && ((decide (1 ≤ r.path.length) && decide (r.path.length ≤ 12)) && ((decide (r.secs ≠ []) && sscB t (r.secs ++ r.osecs)) && (inB r.app 0 (t.nsec - 1) && decide (1 ≤ r.len)))))
def zG : Stg := ⟨0, 0⟩
def stB (t : Tab) (l : List Stg) (i : Nat) : Bool := decide ((l.getD i zG).el ∈ t.pts) && ((decide ((l.getD i zG).pos = 1) || decide ((l.getD i zG).pos = 2)) && (decide (i = 0) || decide ((l.getD (i - 1) zG).el < (l.getD i zG).el)))
def stsB (t : Tab) (l : List Stg) : Bool := (List.range l.length).all (stB t l)
def setB (t : Tab) (r : Rou) : Bool := stsB t r.pts && (stsB t r.opts && stsB t r.flk)
def agrB (a b : List Stg) : Bool := a.all fun x => b.all fun y => !(decide (x.el = y.el) && decide (x.pos ≠ y.pos))
def agB (r : Rou) : Bool := agrB r.pts r.opts && (agrB r.pts r.flk && agrB r.opts r.flk)
def chkT (t : Tab) : Int := if limB t = false then 2 else if ptsB t = false then 1 else if t.rts.all (rouB t) = false then 1 else if t.rts.all (setB t) = false then 1 else if t.rts.all agB = false then 10 else if decide (t.rts.map Rou.name).Nodup = false then 8 else 0
theorem chkT_ok {t : Tab} (h : chkT t = 0) : limB t = true ∧ ptsB t = true ∧ t.rts.all (rouB t) = true ∧ t.rts.all (setB t) = true ∧ t.rts.all agB = true ∧ (t.rts.map Rou.name).Nodup := by
  unfold chkT at h
  repeat' (split at h)
  all_goals first
    | (exfalso; omega)
    | simp_all
/-! ### The text -/
def tableW : List UInt8 := [116, 97, 98, 108, 101]
def pointW : List UInt8 := [112, 111, 105, 110, 116]
def routeW : List UInt8 := [114, 111, 117, 116, 101]
def pathW : List UInt8 := [112, 97, 116, 104]
def pointsW : List UInt8 := [112, 111, 105, 110, 116, 115]
def sectionsW : List UInt8 := [115, 101, 99, 116, 105, 111, 110, 115]
def overW : List UInt8 := [111, 118, 101, 114]
def overpointsW : List UInt8 := [111, 118, 101, 114, 112, 111, 105, 110, 116, 115]
def oversectionsW : List UInt8 := [111, 118, 101, 114, 115, 101, 99, 116, 105, 111, 110, 115]
def flankW : List UInt8 := [102, 108, 97, 110, 107]
def guardsW : List UInt8 := [103, 117, 97, 114, 100, 115]
def gapsW : List UInt8 := [103, 97, 112, 115]
def stpN (s : Stp) : List Int := [s.el, s.inn, s.out]
def stgN (s : Stg) : List Int := [s.el, s.pos]
def endN (s : End2) : List Int := [s.el, s.sd]
def lstW (w : List UInt8) (l : List (List UInt8)) : Lns := if l = [] then [] else [w :: l]
def stpsW (l : List Stp) : List (List UInt8) := l.map fun s => fmtF (stpN s)
def stgsW (l : List Stg) : List (List UInt8) := l.map fun s => fmtF (stgN s)
def endsW (l : List End2) : List (List UInt8) := l.map fun s => fmtF (endN s)
def numsW (l : List Int) : List (List UInt8) := l.map Lib.itoa
def listsR (r : Rou) : Lns :=
  lstW pathW (stpsW r.path) ++ (lstW pointsW (stgsW r.pts) ++ (lstW sectionsW (numsW r.secs) ++ (lstW overW (stpsW r.over) ++ (lstW overpointsW (stgsW r.opts) ++ (lstW oversectionsW (numsW r.osecs) ++ (lstW flankW (stgsW r.flk) ++ (lstW guardsW (numsW r.grd) ++ lstW gapsW (endsW r.gap))))))))
def rhead (r : Rou) : List (List UInt8) := [routeW, r.name, Lib.itoa r.ent, Lib.itoa r.ext, Lib.itoa r.app, Lib.itoa r.len]
def rouW (r : Rou) : Lns := rhead r :: listsR r
def ptW (p : Int × Int) : List (List UInt8) := [pointW, Lib.itoa p.1, Lib.itoa p.2]
def thead (t : Tab) : List (List UInt8) := [tableW, Lib.itoa t.nsec, Lib.itoa t.nsig]
def linesT (t : Tab) : Lns := thead t :: ((t.pts.zip t.homes).map ptW ++ t.rts.flatMap rouW)
def prtT (t : Tab) : List UInt8 × Int := if chkT t = 0 then joinF (linesT t) else ([], chkT t)
/-! ### Reading -/
def rankF (w : List UInt8) : Int := if w = tableW then 1 else if w = pointW then 2 else if w = routeW then 3 else if w = pathW then 4 else if w = pointsW then 5 else if w = sectionsW then 6 else if w = overW then 7 else if w = overpointsW then 8 else if w = oversectionsW then 9 else if w = flankW then 10 else if w = guardsW then 11 else if w = gapsW then 12 else 0
def optI (l : List (List UInt8)) : Option (List Int) := if (l.all fun w => decide ((intF w).2 = 0)) = true then some (l.map fun w => (intF w).1) else none
def partB (n : Nat) (w : List UInt8) : Bool := decide ((listF w).2 = 0) && decide ((listF w).1.length = n)
def optP (n : Nat) (l : List (List UInt8)) : Option (List (List Int)) := if l.all (partB n) = true then some (l.map fun w => (listF w).1) else none
def mkStp (l : List Int) : Stp := ⟨l.getD 0 0, l.getD 1 0, l.getD 2 0⟩
def mkStg (l : List Int) : Stg := ⟨l.getD 0 0, l.getD 1 0⟩
def mkEnd (l : List Int) : End2 := ⟨l.getD 0 0, l.getD 1 0⟩
def optS (l : List (List UInt8)) : Option (List Stp) := (optP 3 l).map fun x => x.map mkStp
def optG (l : List (List UInt8)) : Option (List Stg) := (optP 2 l).map fun x => x.map mkStg
def optE (l : List (List UInt8)) : Option (List End2) := (optP 2 l).map fun x => x.map mkEnd
def listR (r : Rou) (k : Int) (a : List (List UInt8)) : Option Rou :=
  if k = 4 then (optS a).map fun x => { r with path := x }
  else if k = 5 then (optG a).map fun x => { r with pts := x }
  else if k = 6 then (optI a).map fun x => { r with secs := x }
  else if k = 7 then (optS a).map fun x => { r with over := x }
  else if k = 8 then (optG a).map fun x => { r with opts := x }
  else if k = 9 then (optI a).map fun x => { r with osecs := x }
  else if k = 10 then (optG a).map fun x => { r with flk := x }
  else if k = 11 then (optI a).map fun x => { r with grd := x }
  else if k = 12 then (optE a).map fun x => { r with gap := x }
  else none
def zR : Rou := ⟨[], 0, 0, 0, 0, [], [], [], [], [], [], [], [], []⟩
def headT (t : Tab) (a : List (List UInt8)) : Option Tab := if a.length = 2 then (optI a).map fun n => { t with nsec := n.getD 0 0, nsig := n.getD 1 0 } else none
def pointT (t : Tab) (a : List (List UInt8)) : Option Tab := if a.length = 2 then (optI a).map fun n => { t with pts := t.pts ++ [n.getD 0 0], homes := t.homes ++ [n.getD 1 0] } else none
def routeT (t : Tab) (a : List (List UInt8)) : Option Tab := if a.length = 5 then (optI a.tail).map fun n => { t with rts := t.rts ++ [{ zR with name := a.headD [], ent := n.getD 0 0, ext := n.getD 1 0, app := n.getD 2 0, len := n.getD 3 0 }] } else none
def listT (t : Tab) (k : Int) (a : List (List UInt8)) : Option Tab := if a = [] then none else (listR (t.rts.getLastD zR) k a).map fun r => { t with rts := t.rts.dropLast ++ [r] }
def follB (p k : Int) : Bool := if k = 0 then false else if k = 1 then decide (p = 0) else if k = 2 then decide (p = 1) || decide (p = 2) else if k = 3 then decide (1 ≤ p) else decide (3 ≤ p) && decide (p < k)
def takeT (t : Tab) (k : Int) (a : List (List UInt8)) : Option Tab := if k = 1 then headT t a else if k = 2 then pointT t a else if k = 3 then routeT t a else listT t k a
def stepT (t : Tab) (p : Int) (ln : List (List UInt8)) : Option Tab := if follB p (rankF (ln.headD [])) = true then takeT t (rankF (ln.headD [])) ln.tail else none
def readT : Tab → Int → Nat → Lns → Tab × Nat × Int
  | t, _, _, [] => (t, 0, 0)
  | t, p, n, ln :: r => match stepT t p ln with
    | some t' => readT t' (rankF (ln.headD [])) (n + 1) r
    | none => (zT, n + 1, 4)
def endT (r : Tab × Nat × Int) : Tab × Nat × Int := if r.2.2 = 0 then (if chkT r.1 = 0 then (r.1, 0, 0) else (zT, 0, chkT r.1)) else r
def parT (s : List UInt8) : Tab × Nat × Int :=
  if (linesF s).2.2 = 0 then (if (linesF s).1 = [] then (zT, 1, 4) else endT (readT zT 0 0 (linesF s).1)) else (zT, (linesF s).2.1, (linesF s).2.2)
end Go.Proofs.YtlblfblkallnhaaGreatDoor
namespace Go.Proofs.YtlblfblkallnhaaGreatDoor
set_option linter.unusedVariables false
set_option linter.unusedSimpArgs false
open Go.RowKit
/-! ### Words and numbers -/
theorem optI_itoa {l : List Int} (h : I64s l) : optI (numsW l) = some l := by
  unfold optI numsW
  have e : ∀ n ∈ l, intF (Lib.itoa n) = (n, 0) := fun n hn => int_itoa n (h n hn).1 (h n hn).2
  rw [if_pos]
  · rw [List.map_map]
    congr 1
    conv => rhs; rw [← List.map_id l]
    exact List.map_congr_left fun n hn => by simp [e n hn]
  · rw [List.all_map, List.all_eq_true]
    intro n hn
    simp [e n hn]
theorem optI_ok {a : List (List UInt8)} {n : List Int} (h : optI a = some n) : numsW n = a ∧ I64s n := by
  unfold optI at h
  split at h
  · rename_i ha
    rw [List.all_eq_true] at ha
    simp only [Option.some.injEq] at h
    subst h
    refine ⟨?_, ?_⟩
    · unfold numsW
      rw [List.map_map]
      conv => rhs; rw [← List.map_id a]
      refine List.map_congr_left fun w hw => ?_
      have h2 : (intF w).2 = 0 := by simpa using ha w hw
      exact (itoa_int (s := w) (n := (intF w).1) (by rw [← h2])).1
    · intro m hm
      obtain ⟨w, hw, rfl⟩ := List.mem_map.1 hm
      have h2 : (intF w).2 = 0 := by simpa using ha w hw
      exact (itoa_int (s := w) (n := (intF w).1) (by rw [← h2])).2
  · cases h
theorem optI_len {a : List (List UInt8)} {n : List Int} (h : optI a = some n) : n.length = a.length := by
  rw [← (optI_ok h).1]; simp [numsW]
theorem optP_fmt {k : Nat} {xs : List (List Int)} (h : ∀ x ∈ xs, I64s x ∧ x.length = k) : optP k (xs.map fmtF) = some xs := by
  unfold optP
  have e : ∀ x ∈ xs, listF (fmtF x) = (x, 0) := fun x hx => list_fmt x (h x hx).1
  rw [if_pos]
  · rw [List.map_map]
    congr 1
    conv => rhs; rw [← List.map_id xs]
    exact List.map_congr_left fun x hx => by simp [e x hx]
  · rw [List.all_map, List.all_eq_true]
    intro x hx
    simp [partB, e x hx, (h x hx).2]
theorem optP_ok {k : Nat} {a : List (List UInt8)} {xs : List (List Int)} (h : optP k a = some xs) : xs.map fmtF = a ∧ ∀ x ∈ xs, I64s x ∧ x.length = k := by
  unfold optP at h
  split at h
  · rename_i ha
    rw [List.all_eq_true] at ha
    simp only [Option.some.injEq] at h
    subst h
    have key : ∀ w ∈ a, (listF w).2 = 0 ∧ (listF w).1.length = k := fun w hw => by simpa [partB] using ha w hw
    refine ⟨?_, ?_⟩
    · rw [List.map_map]
      conv => rhs; rw [← List.map_id a]
      exact List.map_congr_left fun w hw => (fmt_list (s := w) (a := (listF w).1) (by rw [← (key w hw).1])).1
    · intro x hx
      obtain ⟨w, hw, rfl⟩ := List.mem_map.1 hx
      exact ⟨(fmt_list (s := w) (a := (listF w).1) (by rw [← (key w hw).1])).2, (key w hw).2⟩
  · cases h
theorem stp_mk (s : Stp) : mkStp (stpN s) = s := rfl
theorem stg_mk (s : Stg) : mkStg (stgN s) = s := rfl
theorem end_mk (s : End2) : mkEnd (endN s) = s := rfl
theorem mk_stp {x : List Int} (h : x.length = 3) : stpN (mkStp x) = x := by
  match x, h with
  | [a, b, c], _ => rfl
theorem mk_stg {x : List Int} (h : x.length = 2) : stgN (mkStg x) = x := by
  match x, h with
  | [a, b], _ => rfl
theorem mk_end {x : List Int} (h : x.length = 2) : endN (mkEnd x) = x := by
  match x, h with
  | [a, b], _ => rfl
section
variable {α : Type} {k : Nat} {mk : List Int → α} {nn : α → List Int}
theorem opt_fmt (h1 : ∀ s, mk (nn s) = s) {l : List α} (h : ∀ s ∈ l, I64s (nn s) ∧ (nn s).length = k) : ((optP k (l.map fun s => fmtF (nn s))).map fun x => x.map mk) = some l := by
  have : (l.map fun s => fmtF (nn s)) = (l.map nn).map fmtF := by rw [List.map_map]; rfl
  rw [this, optP_fmt (fun x hx => by obtain ⟨s, hs, rfl⟩ := List.mem_map.1 hx; exact h s hs)]
  simp only [Option.map_some, List.map_map, Option.some.injEq]
  conv => rhs; rw [← List.map_id l]
  exact List.map_congr_left fun s _ => by simp [h1]
theorem opt_ok (h1 : ∀ x : List Int, x.length = k → nn (mk x) = x) {a : List (List UInt8)} {l : List α} (h : ((optP k a).map fun x => x.map mk) = some l) : (l.map fun s => fmtF (nn s)) = a ∧ ∀ s ∈ l, I64s (nn s) := by
  cases hp : optP k a with
  | none => rw [hp] at h; cases h
  | some xs =>
    rw [hp] at h
    simp only [Option.map_some, Option.some.injEq] at h
    subst h
    obtain ⟨h2, h3⟩ := optP_ok hp
    refine ⟨?_, ?_⟩
    · rw [← h2, List.map_map]
      exact List.map_congr_left fun x hx => by simp [h1 x (h3 x hx).2]
    · intro s hs
      obtain ⟨x, hx, rfl⟩ := List.mem_map.1 hs
      rw [h1 x (h3 x hx).2]
      exact (h3 x hx).1
end
theorem optS_fmt {l : List Stp} (h : ∀ s ∈ l, I64s (stpN s)) : optS (stpsW l) = some l := opt_fmt (k := 3) stp_mk fun s hs => ⟨h s hs, rfl⟩
theorem optG_fmt {l : List Stg} (h : ∀ s ∈ l, I64s (stgN s)) : optG (stgsW l) = some l := opt_fmt (k := 2) stg_mk fun s hs => ⟨h s hs, rfl⟩
theorem optE_fmt {l : List End2} (h : ∀ s ∈ l, I64s (endN s)) : optE (endsW l) = some l := opt_fmt (k := 2) end_mk fun s hs => ⟨h s hs, rfl⟩
theorem optS_ok {a : List (List UInt8)} {l : List Stp} (h : optS a = some l) : stpsW l = a ∧ ∀ s ∈ l, I64s (stpN s) := opt_ok (k := 3) (fun x hx => mk_stp hx) h
theorem optG_ok {a : List (List UInt8)} {l : List Stg} (h : optG a = some l) : stgsW l = a ∧ ∀ s ∈ l, I64s (stgN s) := opt_ok (k := 2) (fun x hx => mk_stg hx) h
theorem optE_ok {a : List (List UInt8)} {l : List End2} (h : optE a = some l) : endsW l = a ∧ ∀ s ∈ l, I64s (endN s) := opt_ok (k := 2) (fun x hx => mk_end hx) h
/-! ### What is in range -/
structure RouO (r : Rou) : Prop where
  n : I64s [r.ent, r.ext, r.app, r.len]
  path : ∀ s ∈ r.path, I64s (stpN s)
  pts : ∀ s ∈ r.pts, I64s (stgN s)
  secs : I64s r.secs
  over : ∀ s ∈ r.over, I64s (stpN s)
  opts : ∀ s ∈ r.opts, I64s (stgN s)
  osecs : I64s r.osecs
  flk : ∀ s ∈ r.flk, I64s (stgN s)
  grd : I64s r.grd
  gap : ∀ s ∈ r.gap, I64s (endN s)
structure TabO (t : Tab) : Prop where
  n : I64s [t.nsec, t.nsig]
  pts : I64s t.pts
  homes : I64s t.homes
  rts : ∀ r ∈ t.rts, RouO r
/-! ### Runs over lines -/
def runT : Tab → Int → Lns → Option (Tab × Int)
  | t, p, [] => some (t, p)
  | t, p, ln :: r => (stepT t p ln).bind fun t' => runT t' (rankF (ln.headD [])) r
theorem run_app : ∀ (l m : Lns) (t : Tab) (p : Int), runT t p (l ++ m) = (runT t p l).bind fun q => runT q.1 q.2 m
  | [], m, t, p => rfl
  | ln :: r, m, t, p => by
    simp only [List.cons_append, runT]
    cases stepT t p ln with
    | none => rfl
    | some t' => exact run_app r m t' _
theorem run_then {l m : Lns} {t u : Tab} {p q : Int} (h : runT t p l = some (u, q)) : runT t p (l ++ m) = runT u q m := by rw [run_app, h]; rfl
theorem read_run : ∀ (l m : Lns) (t u : Tab) (p q : Int) (n : Nat), runT t p l = some (u, q) → readT t p n (l ++ m) = readT u q (n + l.length) m
  | [], m, t, u, p, q, n, h => by
    simp only [runT, Option.some.injEq, Prod.mk.injEq] at h
    obtain ⟨rfl, rfl⟩ := h
    rfl
  | ln :: r, m, t, u, p, q, n, h => by
    simp only [runT] at h
    simp only [List.cons_append, readT]
    cases hs : stepT t p ln with
    | none => rw [hs] at h; cases h
    | some t' =>
      rw [hs] at h
      have := read_run r m t' u _ q (n + 1) h
      rw [List.length_cons, show n + (r.length + 1) = n + 1 + r.length by omega]
      exact this
theorem run_read : ∀ (l : Lns) (t u : Tab) (p : Int) (n k : Nat), readT t p n l = (u, k, 0) → k = 0 ∧ ∃ q, runT t p l = some (u, q)
  | [], t, u, p, n, k, h => by
    simp only [readT, Prod.mk.injEq, and_true] at h
    obtain ⟨rfl, rfl⟩ := h
    exact ⟨rfl, p, rfl⟩
  | ln :: r, t, u, p, n, k, h => by
    simp only [readT] at h
    cases hs : stepT t p ln with
    | none => rw [hs] at h; simp at h
    | some t' =>
      rw [hs] at h
      obtain ⟨h1, q, h2⟩ := run_read r t' u _ (n + 1) k h
      exact ⟨h1, q, by simp only [runT, hs]; exact h2⟩
/-- Where reading fails: the first line that no step takes. -/
theorem read_bad : ∀ (l : Lns) (t u : Tab) (p : Int) (n k : Nat) (e : Int), readT t p n l = (u, k, e) → e ≠ 0 → u = zT ∧ e = 4 ∧ ∃ a ln b t' q, l = a ++ ln :: b ∧ k = n + a.length + 1 ∧ runT t p a = some (t', q) ∧ stepT t' q ln = none
  | [], t, u, p, n, k, e, h, he => by
    simp only [readT, Prod.mk.injEq] at h
    exact absurd h.2.2.symm he
  | ln :: r, t, u, p, n, k, e, h, he => by
    simp only [readT] at h
    cases hs : stepT t p ln with
    | none =>
      rw [hs] at h
      simp only [Prod.mk.injEq] at h
      obtain ⟨rfl, rfl, rfl⟩ := h
      exact ⟨rfl, rfl, [], ln, r, t, p, rfl, rfl, rfl, hs⟩
    | some t' =>
      rw [hs] at h
      obtain ⟨h1, h2, a, ln', b, t2, q, h3, h4, h5, h6⟩ := read_bad r t' u _ (n + 1) k e h he
      subst h3
      exact ⟨h1, h2, ln :: a, ln', b, t2, q, rfl, by rw [h4, List.length_cons]; omega, by simp only [runT, hs]; exact h5, h6⟩
/-! ### A table's lines are read back -/
theorem foll_list {p k : Int} (hk : 4 ≤ k) (hp : 3 ≤ p) (hpk : p < k) : follB p k = true := by
  unfold follB
  rw [if_neg (by omega), if_neg (by omega), if_neg (by omega), if_neg (by omega)]
  simp [hp, hpk]
theorem step_list {t : Tab} {rs : List Rou} {r r' : Rou} {p k : Int} {w : List UInt8} {a : List (List UInt8)} (hw : rankF w = k) (hk : 4 ≤ k) (hp : 3 ≤ p) (hpk : p < k) (ha : a ≠ []) (h : listR r k a = some r') :
    stepT { t with rts := rs ++ [r] } p (w :: a) = some { t with rts := rs ++ [r'] } := by
  unfold stepT
  simp only [List.headD_cons, List.tail_cons, hw]
  rw [if_pos (foll_list hk hp hpk)]
  unfold takeT
  rw [if_neg (by omega), if_neg (by omega), if_neg (by omega)]
  unfold listT
  rw [if_neg ha]
  simp [h]
theorem list_run {t : Tab} {rs : List Rou} {r r' : Rou} {p k : Int} {w : List UInt8} {a : List (List UInt8)} (hw : rankF w = k) (hk : 4 ≤ k) (hp : 3 ≤ p) (hpk : p < k) (h : listR r k a = some r') (h0 : a = [] → r' = r) :
    ∃ q, runT { t with rts := rs ++ [r] } p (lstW w a) = some ({ t with rts := rs ++ [r'] }, q) ∧ 3 ≤ q ∧ q ≤ k := by
  unfold lstW
  by_cases ha : a = []
  · rw [if_pos ha, h0 ha]
    exact ⟨p, rfl, hp, by omega⟩
  · rw [if_neg ha]
    refine ⟨k, ?_, by omega, by omega⟩
    simp only [runT, step_list hw hk hp hpk ha h, Option.bind_some, List.headD_cons, hw]
theorem lists_run (t : Tab) (rs : List Rou) (r : Rou) (ho : RouO r) : ∃ q, runT { t with rts := rs ++ [{ zR with name := r.name, ent := r.ent, ext := r.ext, app := r.app, len := r.len }] } 3 (listsR r) = some ({ t with rts := rs ++ [r] }, q) ∧ 3 ≤ q := by
  obtain ⟨p1, h1, u1, v1⟩ := list_run (t := t) (rs := rs) (r := { zR with name := r.name, ent := r.ent, ext := r.ext, app := r.app, len := r.len }) (r' := { zR with name := r.name, ent := r.ent, ext := r.ext, app := r.app, len := r.len, path := r.path }) (p := 3) (k := 4) (w := pathW) (a := stpsW r.path) (by decide) (by omega) (by omega) (by omega) (by unfold listR; simp [optS_fmt ho.path]) (fun h => by have h : r.path = [] := (List.map_eq_nil_iff.1 h); first | (simp [h, zR]; done) | (cases r; simp only at h; subst h; rfl))
  obtain ⟨p2, h2, u2, v2⟩ := list_run (t := t) (rs := rs) (r := { zR with name := r.name, ent := r.ent, ext := r.ext, app := r.app, len := r.len, path := r.path }) (r' := { zR with name := r.name, ent := r.ent, ext := r.ext, app := r.app, len := r.len, path := r.path, pts := r.pts }) (p := p1) (k := 5) (w := pointsW) (a := stgsW r.pts) (by decide) (by omega) (by omega) (by omega) (by unfold listR; simp [optG_fmt ho.pts]) (fun h => by have h : r.pts = [] := (List.map_eq_nil_iff.1 h); first | (simp [h, zR]; done) | (cases r; simp only at h; subst h; rfl))
  obtain ⟨p3, h3, u3, v3⟩ := list_run (t := t) (rs := rs) (r := { zR with name := r.name, ent := r.ent, ext := r.ext, app := r.app, len := r.len, path := r.path, pts := r.pts }) (r' := { zR with name := r.name, ent := r.ent, ext := r.ext, app := r.app, len := r.len, path := r.path, pts := r.pts, secs := r.secs }) (p := p2) (k := 6) (w := sectionsW) (a := numsW r.secs) (by decide) (by omega) (by omega) (by omega) (by unfold listR; simp [optI_itoa ho.secs]) (fun h => by have h : r.secs = [] := (List.map_eq_nil_iff.1 h); first | (simp [h, zR]; done) | (cases r; simp only at h; subst h; rfl))
  obtain ⟨p4, h4, u4, v4⟩ := list_run (t := t) (rs := rs) (r := { zR with name := r.name, ent := r.ent, ext := r.ext, app := r.app, len := r.len, path := r.path, pts := r.pts, secs := r.secs }) (r' := { zR with name := r.name, ent := r.ent, ext := r.ext, app := r.app, len := r.len, path := r.path, pts := r.pts, secs := r.secs, over := r.over }) (p := p3) (k := 7) (w := overW) (a := stpsW r.over) (by decide) (by omega) (by omega) (by omega) (by unfold listR; simp [optS_fmt ho.over]) (fun h => by have h : r.over = [] := (List.map_eq_nil_iff.1 h); first | (simp [h, zR]; done) | (cases r; simp only at h; subst h; rfl))
  obtain ⟨p5, h5, u5, v5⟩ := list_run (t := t) (rs := rs) (r := { zR with name := r.name, ent := r.ent, ext := r.ext, app := r.app, len := r.len, path := r.path, pts := r.pts, secs := r.secs, over := r.over }) (r' := { zR with name := r.name, ent := r.ent, ext := r.ext, app := r.app, len := r.len, path := r.path, pts := r.pts, secs := r.secs, over := r.over, opts := r.opts }) (p := p4) (k := 8) (w := overpointsW) (a := stgsW r.opts) (by decide) (by omega) (by omega) (by omega) (by unfold listR; simp [optG_fmt ho.opts]) (fun h => by have h : r.opts = [] := (List.map_eq_nil_iff.1 h); first | (simp [h, zR]; done) | (cases r; simp only at h; subst h; rfl))
  obtain ⟨p6, h6, u6, v6⟩ := list_run (t := t) (rs := rs) (r := { zR with name := r.name, ent := r.ent, ext := r.ext, app := r.app, len := r.len, path := r.path, pts := r.pts, secs := r.secs, over := r.over, opts := r.opts }) (r' := { zR with name := r.name, ent := r.ent, ext := r.ext, app := r.app, len := r.len, path := r.path, pts := r.pts, secs := r.secs, over := r.over, opts := r.opts, osecs := r.osecs }) (p := p5) (k := 9) (w := oversectionsW) (a := numsW r.osecs) (by decide) (by omega) (by omega) (by omega) (by unfold listR; simp [optI_itoa ho.osecs]) (fun h => by have h : r.osecs = [] := (List.map_eq_nil_iff.1 h); first | (simp [h, zR]; done) | (cases r; simp only at h; subst h; rfl))
  obtain ⟨p7, h7, u7, v7⟩ := list_run (t := t) (rs := rs) (r := { zR with name := r.name, ent := r.ent, ext := r.ext, app := r.app, len := r.len, path := r.path, pts := r.pts, secs := r.secs, over := r.over, opts := r.opts, osecs := r.osecs }) (r' := { zR with name := r.name, ent := r.ent, ext := r.ext, app := r.app, len := r.len, path := r.path, pts := r.pts, secs := r.secs, over := r.over, opts := r.opts, osecs := r.osecs, flk := r.flk }) (p := p6) (k := 10) (w := flankW) (a := stgsW r.flk) (by decide) (by omega) (by omega) (by omega) (by unfold listR; simp [optG_fmt ho.flk]) (fun h => by have h : r.flk = [] := (List.map_eq_nil_iff.1 h); first | (simp [h, zR]; done) | (cases r; simp only at h; subst h; rfl))
  obtain ⟨p8, h8, u8, v8⟩ := list_run (t := t) (rs := rs) (r := { zR with name := r.name, ent := r.ent, ext := r.ext, app := r.app, len := r.len, path := r.path, pts := r.pts, secs := r.secs, over := r.over, opts := r.opts, osecs := r.osecs, flk := r.flk }) (r' := { zR with name := r.name, ent := r.ent, ext := r.ext, app := r.app, len := r.len, path := r.path, pts := r.pts, secs := r.secs, over := r.over, opts := r.opts, osecs := r.osecs, flk := r.flk, grd := r.grd }) (p := p7) (k := 11) (w := guardsW) (a := numsW r.grd) (by decide) (by omega) (by omega) (by omega) (by unfold listR; simp [optI_itoa ho.grd]) (fun h => by have h : r.grd = [] := (List.map_eq_nil_iff.1 h); first | (simp [h, zR]; done) | (cases r; simp only at h; subst h; rfl))
  obtain ⟨p9, h9, u9, v9⟩ := list_run (t := t) (rs := rs) (r := { zR with name := r.name, ent := r.ent, ext := r.ext, app := r.app, len := r.len, path := r.path, pts := r.pts, secs := r.secs, over := r.over, opts := r.opts, osecs := r.osecs, flk := r.flk, grd := r.grd }) (r' := { zR with name := r.name, ent := r.ent, ext := r.ext, app := r.app, len := r.len, path := r.path, pts := r.pts, secs := r.secs, over := r.over, opts := r.opts, osecs := r.osecs, flk := r.flk, grd := r.grd, gap := r.gap }) (p := p8) (k := 12) (w := gapsW) (a := endsW r.gap) (by decide) (by omega) (by omega) (by omega) (by unfold listR; simp [optE_fmt ho.gap]) (fun h => by have h : r.gap = [] := (List.map_eq_nil_iff.1 h); first | (simp [h, zR]; done) | (cases r; simp only at h; subst h; rfl))
  refine ⟨p9, ?_, u9⟩
  unfold listsR
  rw [run_then h1, run_then h2, run_then h3, run_then h4, run_then h5, run_then h6, run_then h7, run_then h8, h9]
theorem route_run (t : Tab) (rs : List Rou) (r : Rou) (ho : RouO r) {p : Int} (hp : 1 ≤ p) : ∃ q, runT { t with rts := rs } p (rouW r) = some ({ t with rts := rs ++ [r] }, q) ∧ 3 ≤ q := by
  obtain ⟨q, h, hq⟩ := lists_run t rs r ho
  refine ⟨q, ?_, hq⟩
  have hs : stepT { t with rts := rs } p (rhead r) = some { t with rts := rs ++ [{ zR with name := r.name, ent := r.ent, ext := r.ext, app := r.app, len := r.len }] } := by
    have hr : rankF routeW = 3 := by decide
    unfold stepT rhead
    simp only [List.headD_cons, List.tail_cons, hr]
    rw [if_pos (by unfold follB; simp [hp])]
    unfold takeT
    rw [if_neg (by decide), if_neg (by decide), if_pos rfl]
    unfold routeT
    have hn : optI [Lib.itoa r.ent, Lib.itoa r.ext, Lib.itoa r.app, Lib.itoa r.len] = some [r.ent, r.ext, r.app, r.len] := optI_itoa ho.n
    simp [hn]
  unfold rouW
  simp only [runT, hs, Option.bind_some]
  exact h
theorem routes_run (t : Tab) : ∀ (l rs : List Rou) (p : Int), 1 ≤ p → (∀ r ∈ l, RouO r) → ∃ q, runT { t with rts := rs } p (l.flatMap rouW) = some ({ t with rts := rs ++ l }, q) ∧ 1 ≤ q
  | [], rs, p, hp, _ => ⟨p, by simp [runT], hp⟩
  | r :: l, rs, p, hp, ho => by
    obtain ⟨q, h, hq⟩ := route_run t rs r (ho r (by simp)) hp
    obtain ⟨q2, h2, hq2⟩ := routes_run t l (rs ++ [r]) q (by omega) (fun x hx => ho x (by simp [hx]))
    refine ⟨q2, ?_, hq2⟩
    rw [List.flatMap_cons, run_then h, h2, List.append_assoc]
    rfl
theorem points_run (t : Tab) : ∀ (l : List (Int × Int)) (ps hs : List Int) (p : Int), p = 1 ∨ p = 2 → (∀ x ∈ l, I64s [x.1, x.2]) → ∃ q, runT { t with pts := ps, homes := hs } p (l.map ptW) = some ({ t with pts := ps ++ l.map Prod.fst, homes := hs ++ l.map Prod.snd }, q) ∧ (q = 1 ∨ q = 2)
  | [], ps, hs, p, hp, _ => ⟨p, by simp [runT], hp⟩
  | x :: l, ps, hs, p, hp, ho => by
    obtain ⟨q2, h2, hq2⟩ := points_run t l (ps ++ [x.1]) (hs ++ [x.2]) 2 (Or.inr rfl) (fun y hy => ho y (by simp [hy]))
    refine ⟨q2, ?_, hq2⟩
    have hs2 : stepT { t with pts := ps, homes := hs } p (ptW x) = some { t with pts := ps ++ [x.1], homes := hs ++ [x.2] } := by
      have hr : rankF pointW = 2 := by decide
      unfold stepT ptW
      simp only [List.headD_cons, List.tail_cons, hr]
      rw [if_pos (by unfold follB; rcases hp with rfl | rfl <;> decide)]
      unfold takeT
      rw [if_neg (by decide), if_pos rfl]
      unfold pointT
      have hn : optI [Lib.itoa x.1, Lib.itoa x.2] = some [x.1, x.2] := optI_itoa (ho x (by simp))
      simp [hn]
    have hr : rankF pointW = 2 := by decide
    rw [List.map_cons]
    simp only [runT, hs2, Option.bind_some]
    have hh : rankF ((ptW x).headD []) = 2 := hr
    rw [hh, h2]
    simp
theorem lines_run {t : Tab} (ho : TabO t) (hl : t.homes.length = t.pts.length) : ∃ q, runT zT 0 (linesT t) = some (t, q) := by
  have hs : stepT zT 0 (thead t) = some { zT with nsec := t.nsec, nsig := t.nsig } := by
    have hr : rankF tableW = 1 := by decide
    unfold stepT thead
    simp only [List.headD_cons, List.tail_cons, hr]
    rw [if_pos (by decide)]
    unfold takeT
    rw [if_pos rfl]
    unfold headT
    have hn : optI [Lib.itoa t.nsec, Lib.itoa t.nsig] = some [t.nsec, t.nsig] := optI_itoa ho.n
    simp [hn]
  obtain ⟨q, h, hq⟩ := points_run { zT with nsec := t.nsec, nsig := t.nsig } (t.pts.zip t.homes) [] [] 1 (Or.inl rfl) (fun x hx => by
    have h1 := List.of_mem_zip hx
    intro n hn
    simp only [List.mem_cons, List.not_mem_nil, or_false] at hn
    rcases hn with rfl | rfl
    · exact ho.pts _ h1.1
    · exact ho.homes _ h1.2)
  rw [List.nil_append, List.nil_append, List.map_fst_zip (by omega), List.map_snd_zip (by omega)] at h
  obtain ⟨q2, h2, _⟩ := routes_run { zT with nsec := t.nsec, nsig := t.nsig, pts := t.pts, homes := t.homes } t.rts [] q (by rcases hq with rfl | rfl <;> omega) ho.rts
  refine ⟨q2, ?_⟩
  unfold linesT
  simp only [runT, hs, Option.bind_some]
  have hh : rankF ((thead t).headD []) = 1 := show rankF tableW = 1 by decide
  rw [hh]
  exact (run_then h).trans h2
theorem prt_chk {t : Tab} {x : List UInt8} (h : prtT t = (x, 0)) : chkT t = 0 ∧ joinF (linesT t) = (x, 0) := by
  unfold prtT at h
  split at h
  · rename_i h0; exact ⟨h0, h⟩
  · rename_i h0; simp only [Prod.mk.injEq] at h; exact absurd h.2 h0
theorem pts_len {t : Tab} (h : chkT t = 0) : t.homes.length = t.pts.length := by
  have := (chkT_ok h).2.1
  unfold ptsB at this
  simp only [Bool.and_eq_true, decide_eq_true_eq] at this
  exact this.1
/-- A table's text is read back. -/
theorem par_prtT {t : Tab} {x : List UInt8} (h : prtT t = (x, 0)) (ho : TabO t) : parT x = (t, 0, 0) := by
  obtain ⟨hc, hj⟩ := prt_chk h
  have hl := lines_join hj
  obtain ⟨q, hr⟩ := lines_run ho (pts_len hc)
  have h2 := read_run (linesT t) [] zT t 0 q 0 hr
  rw [List.append_nil] at h2
  unfold parT
  rw [hl]
  simp only [if_true]
  rw [if_neg (by simp [linesT]), h2]
  simp [readT, endT, hc]
/-! ### What was read is what the lines say -/
theorem rank_word {w : List UInt8} {k : Int} (h : rankF w = k) (hk : k ≠ 0) : (k = 1 ∧ w = tableW) ∨ (k = 2 ∧ w = pointW) ∨ (k = 3 ∧ w = routeW) ∨ (k = 4 ∧ w = pathW) ∨ (k = 5 ∧ w = pointsW) ∨ (k = 6 ∧ w = sectionsW) ∨ (k = 7 ∧ w = overW) ∨ (k = 8 ∧ w = overpointsW) ∨ (k = 9 ∧ w = oversectionsW) ∨ (k = 10 ∧ w = flankW) ∨ (k = 11 ∧ w = guardsW) ∨ (k = 12 ∧ w = gapsW) := by
  unfold rankF at h
  by_cases c0 : w = tableW
  · rw [if_pos c0] at h
    exact Or.inl ⟨h.symm, c0⟩
  rw [if_neg c0] at h
  refine Or.inr ?_
  by_cases c1 : w = pointW
  · rw [if_pos c1] at h
    exact Or.inl ⟨h.symm, c1⟩
  rw [if_neg c1] at h
  refine Or.inr ?_
  by_cases c2 : w = routeW
  · rw [if_pos c2] at h
    exact Or.inl ⟨h.symm, c2⟩
  rw [if_neg c2] at h
  refine Or.inr ?_
  by_cases c3 : w = pathW
  · rw [if_pos c3] at h
    exact Or.inl ⟨h.symm, c3⟩
  rw [if_neg c3] at h
  refine Or.inr ?_
  by_cases c4 : w = pointsW
  · rw [if_pos c4] at h
    exact Or.inl ⟨h.symm, c4⟩
  rw [if_neg c4] at h
  refine Or.inr ?_
  by_cases c5 : w = sectionsW
  · rw [if_pos c5] at h
    exact Or.inl ⟨h.symm, c5⟩
  rw [if_neg c5] at h
  refine Or.inr ?_
  by_cases c6 : w = overW
  · rw [if_pos c6] at h
    exact Or.inl ⟨h.symm, c6⟩
  rw [if_neg c6] at h
  refine Or.inr ?_
  by_cases c7 : w = overpointsW
  · rw [if_pos c7] at h
    exact Or.inl ⟨h.symm, c7⟩
  rw [if_neg c7] at h
  refine Or.inr ?_
  by_cases c8 : w = oversectionsW
  · rw [if_pos c8] at h
    exact Or.inl ⟨h.symm, c8⟩
  rw [if_neg c8] at h
  refine Or.inr ?_
  by_cases c9 : w = flankW
  · rw [if_pos c9] at h
    exact Or.inl ⟨h.symm, c9⟩
  rw [if_neg c9] at h
  refine Or.inr ?_
  by_cases c10 : w = guardsW
  · rw [if_pos c10] at h
    exact Or.inl ⟨h.symm, c10⟩
  rw [if_neg c10] at h
  refine Or.inr ?_
  by_cases c11 : w = gapsW
  · rw [if_pos c11] at h
    exact ⟨h.symm, c11⟩
  rw [if_neg c11] at h
  exact absurd h.symm hk
structure EmpR (r : Rou) (p : Int) : Prop where
  e4 : p < 4 → r.path = []
  e5 : p < 5 → r.pts = []
  e6 : p < 6 → r.secs = []
  e7 : p < 7 → r.over = []
  e8 : p < 8 → r.opts = []
  e9 : p < 9 → r.osecs = []
  e10 : p < 10 → r.flk = []
  e11 : p < 11 → r.grd = []
  e12 : p < 12 → r.gap = []
theorem list_ok4 {r r' : Rou} {p : Int} {a : List (List UInt8)} (he : EmpR r p) (hp : p < 4) (ho : RouO r) (ha : a ≠ []) (h : listR r 4 a = some r') : rouW r' = rouW r ++ [pathW :: a] ∧ RouO r' ∧ EmpR r' 4 := by
  have hh : (optS a).map (fun x => { r with path := x }) = some r' := h
  cases hs : optS a with
  | none => rw [hs] at hh; cases hh
  | some x =>
    rw [hs] at hh
    simp only [Option.map_some, Option.some.injEq] at hh
    subst hh
    have hx := optS_ok hs
    have hx1 := hx.1
    have z4 := he.e4 (by omega)
    have z5 := he.e5 (by omega)
    have z6 := he.e6 (by omega)
    have z7 := he.e7 (by omega)
    have z8 := he.e8 (by omega)
    have z9 := he.e9 (by omega)
    have z10 := he.e10 (by omega)
    have z11 := he.e11 (by omega)
    have z12 := he.e12 (by omega)
    refine ⟨?_, ⟨ho.n, hx.2, ho.pts, ho.secs, ho.over, ho.opts, ho.osecs, ho.flk, ho.grd, ho.gap⟩, ?_⟩
    · subst hx1
      have hne : x ≠ [] := fun e => ha (by subst e; rfl)
      simp [rouW, listsR, rhead, lstW, z4, z5, z6, z7, z8, z9, z10, z11, z12, stpsW, stgsW, numsW, endsW, hne]
    · exact ⟨fun h => absurd h (by decide), fun _ => z5, fun _ => z6, fun _ => z7, fun _ => z8, fun _ => z9, fun _ => z10, fun _ => z11, fun _ => z12⟩
theorem list_ok5 {r r' : Rou} {p : Int} {a : List (List UInt8)} (he : EmpR r p) (hp : p < 5) (ho : RouO r) (ha : a ≠ []) (h : listR r 5 a = some r') : rouW r' = rouW r ++ [pointsW :: a] ∧ RouO r' ∧ EmpR r' 5 := by
  have hh : (optG a).map (fun x => { r with pts := x }) = some r' := h
  cases hs : optG a with
  | none => rw [hs] at hh; cases hh
  | some x =>
    rw [hs] at hh
    simp only [Option.map_some, Option.some.injEq] at hh
    subst hh
    have hx := optG_ok hs
    have hx1 := hx.1
    have z5 := he.e5 (by omega)
    have z6 := he.e6 (by omega)
    have z7 := he.e7 (by omega)
    have z8 := he.e8 (by omega)
    have z9 := he.e9 (by omega)
    have z10 := he.e10 (by omega)
    have z11 := he.e11 (by omega)
    have z12 := he.e12 (by omega)
    refine ⟨?_, ⟨ho.n, ho.path, hx.2, ho.secs, ho.over, ho.opts, ho.osecs, ho.flk, ho.grd, ho.gap⟩, ?_⟩
    · subst hx1
      have hne : x ≠ [] := fun e => ha (by subst e; rfl)
      simp [rouW, listsR, rhead, lstW, z5, z6, z7, z8, z9, z10, z11, z12, stpsW, stgsW, numsW, endsW, hne]
    · exact ⟨fun h => absurd h (by decide), fun h => absurd h (by decide), fun _ => z6, fun _ => z7, fun _ => z8, fun _ => z9, fun _ => z10, fun _ => z11, fun _ => z12⟩
theorem list_ok6 {r r' : Rou} {p : Int} {a : List (List UInt8)} (he : EmpR r p) (hp : p < 6) (ho : RouO r) (ha : a ≠ []) (h : listR r 6 a = some r') : rouW r' = rouW r ++ [sectionsW :: a] ∧ RouO r' ∧ EmpR r' 6 := by
  have hh : (optI a).map (fun x => { r with secs := x }) = some r' := h
  cases hs : optI a with
  | none => rw [hs] at hh; cases hh
  | some x =>
    rw [hs] at hh
    simp only [Option.map_some, Option.some.injEq] at hh
    subst hh
    have hx := optI_ok hs
    have hx1 := hx.1
    have z6 := he.e6 (by omega)
    have z7 := he.e7 (by omega)
    have z8 := he.e8 (by omega)
    have z9 := he.e9 (by omega)
    have z10 := he.e10 (by omega)
    have z11 := he.e11 (by omega)
    have z12 := he.e12 (by omega)
    refine ⟨?_, ⟨ho.n, ho.path, ho.pts, hx.2, ho.over, ho.opts, ho.osecs, ho.flk, ho.grd, ho.gap⟩, ?_⟩
    · subst hx1
      have hne : x ≠ [] := fun e => ha (by subst e; rfl)
      simp [rouW, listsR, rhead, lstW, z6, z7, z8, z9, z10, z11, z12, stpsW, stgsW, numsW, endsW, hne]
    · exact ⟨fun h => absurd h (by decide), fun h => absurd h (by decide), fun h => absurd h (by decide), fun _ => z7, fun _ => z8, fun _ => z9, fun _ => z10, fun _ => z11, fun _ => z12⟩
theorem list_ok7 {r r' : Rou} {p : Int} {a : List (List UInt8)} (he : EmpR r p) (hp : p < 7) (ho : RouO r) (ha : a ≠ []) (h : listR r 7 a = some r') : rouW r' = rouW r ++ [overW :: a] ∧ RouO r' ∧ EmpR r' 7 := by
  have hh : (optS a).map (fun x => { r with over := x }) = some r' := h
  cases hs : optS a with
  | none => rw [hs] at hh; cases hh
  | some x =>
    rw [hs] at hh
    simp only [Option.map_some, Option.some.injEq] at hh
    subst hh
    have hx := optS_ok hs
    have hx1 := hx.1
    have z7 := he.e7 (by omega)
    have z8 := he.e8 (by omega)
    have z9 := he.e9 (by omega)
    have z10 := he.e10 (by omega)
    have z11 := he.e11 (by omega)
    have z12 := he.e12 (by omega)
    refine ⟨?_, ⟨ho.n, ho.path, ho.pts, ho.secs, hx.2, ho.opts, ho.osecs, ho.flk, ho.grd, ho.gap⟩, ?_⟩
    · subst hx1
      have hne : x ≠ [] := fun e => ha (by subst e; rfl)
      simp [rouW, listsR, rhead, lstW, z7, z8, z9, z10, z11, z12, stpsW, stgsW, numsW, endsW, hne]
    · exact ⟨fun h => absurd h (by decide), fun h => absurd h (by decide), fun h => absurd h (by decide), fun h => absurd h (by decide), fun _ => z8, fun _ => z9, fun _ => z10, fun _ => z11, fun _ => z12⟩
theorem list_ok8 {r r' : Rou} {p : Int} {a : List (List UInt8)} (he : EmpR r p) (hp : p < 8) (ho : RouO r) (ha : a ≠ []) (h : listR r 8 a = some r') : rouW r' = rouW r ++ [overpointsW :: a] ∧ RouO r' ∧ EmpR r' 8 := by
  have hh : (optG a).map (fun x => { r with opts := x }) = some r' := h
  cases hs : optG a with
  | none => rw [hs] at hh; cases hh
  | some x =>
    rw [hs] at hh
    simp only [Option.map_some, Option.some.injEq] at hh
    subst hh
    have hx := optG_ok hs
    have hx1 := hx.1
    have z8 := he.e8 (by omega)
    have z9 := he.e9 (by omega)
    have z10 := he.e10 (by omega)
    have z11 := he.e11 (by omega)
    have z12 := he.e12 (by omega)
    refine ⟨?_, ⟨ho.n, ho.path, ho.pts, ho.secs, ho.over, hx.2, ho.osecs, ho.flk, ho.grd, ho.gap⟩, ?_⟩
    · subst hx1
      have hne : x ≠ [] := fun e => ha (by subst e; rfl)
      simp [rouW, listsR, rhead, lstW, z8, z9, z10, z11, z12, stpsW, stgsW, numsW, endsW, hne]
    · exact ⟨fun h => absurd h (by decide), fun h => absurd h (by decide), fun h => absurd h (by decide), fun h => absurd h (by decide), fun h => absurd h (by decide), fun _ => z9, fun _ => z10, fun _ => z11, fun _ => z12⟩
theorem list_ok9 {r r' : Rou} {p : Int} {a : List (List UInt8)} (he : EmpR r p) (hp : p < 9) (ho : RouO r) (ha : a ≠ []) (h : listR r 9 a = some r') : rouW r' = rouW r ++ [oversectionsW :: a] ∧ RouO r' ∧ EmpR r' 9 := by
  have hh : (optI a).map (fun x => { r with osecs := x }) = some r' := h
  cases hs : optI a with
  | none => rw [hs] at hh; cases hh
  | some x =>
    rw [hs] at hh
    simp only [Option.map_some, Option.some.injEq] at hh
    subst hh
    have hx := optI_ok hs
    have hx1 := hx.1
    have z9 := he.e9 (by omega)
    have z10 := he.e10 (by omega)
    have z11 := he.e11 (by omega)
    have z12 := he.e12 (by omega)
    refine ⟨?_, ⟨ho.n, ho.path, ho.pts, ho.secs, ho.over, ho.opts, hx.2, ho.flk, ho.grd, ho.gap⟩, ?_⟩
    · subst hx1
      have hne : x ≠ [] := fun e => ha (by subst e; rfl)
      simp [rouW, listsR, rhead, lstW, z9, z10, z11, z12, stpsW, stgsW, numsW, endsW, hne]
    · exact ⟨fun h => absurd h (by decide), fun h => absurd h (by decide), fun h => absurd h (by decide), fun h => absurd h (by decide), fun h => absurd h (by decide), fun h => absurd h (by decide), fun _ => z10, fun _ => z11, fun _ => z12⟩
theorem list_ok10 {r r' : Rou} {p : Int} {a : List (List UInt8)} (he : EmpR r p) (hp : p < 10) (ho : RouO r) (ha : a ≠ []) (h : listR r 10 a = some r') : rouW r' = rouW r ++ [flankW :: a] ∧ RouO r' ∧ EmpR r' 10 := by
  have hh : (optG a).map (fun x => { r with flk := x }) = some r' := h
  cases hs : optG a with
  | none => rw [hs] at hh; cases hh
  | some x =>
    rw [hs] at hh
    simp only [Option.map_some, Option.some.injEq] at hh
    subst hh
    have hx := optG_ok hs
    have hx1 := hx.1
    have z10 := he.e10 (by omega)
    have z11 := he.e11 (by omega)
    have z12 := he.e12 (by omega)
    refine ⟨?_, ⟨ho.n, ho.path, ho.pts, ho.secs, ho.over, ho.opts, ho.osecs, hx.2, ho.grd, ho.gap⟩, ?_⟩
    · subst hx1
      have hne : x ≠ [] := fun e => ha (by subst e; rfl)
      simp [rouW, listsR, rhead, lstW, z10, z11, z12, stpsW, stgsW, numsW, endsW, hne]
    · exact ⟨fun h => absurd h (by decide), fun h => absurd h (by decide), fun h => absurd h (by decide), fun h => absurd h (by decide), fun h => absurd h (by decide), fun h => absurd h (by decide), fun h => absurd h (by decide), fun _ => z11, fun _ => z12⟩
theorem list_ok11 {r r' : Rou} {p : Int} {a : List (List UInt8)} (he : EmpR r p) (hp : p < 11) (ho : RouO r) (ha : a ≠ []) (h : listR r 11 a = some r') : rouW r' = rouW r ++ [guardsW :: a] ∧ RouO r' ∧ EmpR r' 11 := by
  have hh : (optI a).map (fun x => { r with grd := x }) = some r' := h
  cases hs : optI a with
  | none => rw [hs] at hh; cases hh
  | some x =>
    rw [hs] at hh
    simp only [Option.map_some, Option.some.injEq] at hh
    subst hh
    have hx := optI_ok hs
    have hx1 := hx.1
    have z11 := he.e11 (by omega)
    have z12 := he.e12 (by omega)
    refine ⟨?_, ⟨ho.n, ho.path, ho.pts, ho.secs, ho.over, ho.opts, ho.osecs, ho.flk, hx.2, ho.gap⟩, ?_⟩
    · subst hx1
      have hne : x ≠ [] := fun e => ha (by subst e; rfl)
      simp [rouW, listsR, rhead, lstW, z11, z12, stpsW, stgsW, numsW, endsW, hne]
    · exact ⟨fun h => absurd h (by decide), fun h => absurd h (by decide), fun h => absurd h (by decide), fun h => absurd h (by decide), fun h => absurd h (by decide), fun h => absurd h (by decide), fun h => absurd h (by decide), fun h => absurd h (by decide), fun _ => z12⟩
theorem list_ok12 {r r' : Rou} {p : Int} {a : List (List UInt8)} (he : EmpR r p) (hp : p < 12) (ho : RouO r) (ha : a ≠ []) (h : listR r 12 a = some r') : rouW r' = rouW r ++ [gapsW :: a] ∧ RouO r' ∧ EmpR r' 12 := by
  have hh : (optE a).map (fun x => { r with gap := x }) = some r' := h
  cases hs : optE a with
  | none => rw [hs] at hh; cases hh
  | some x =>
    rw [hs] at hh
    simp only [Option.map_some, Option.some.injEq] at hh
    subst hh
    have hx := optE_ok hs
    have hx1 := hx.1
    have z12 := he.e12 (by omega)
    refine ⟨?_, ⟨ho.n, ho.path, ho.pts, ho.secs, ho.over, ho.opts, ho.osecs, ho.flk, ho.grd, hx.2⟩, ?_⟩
    · subst hx1
      have hne : x ≠ [] := fun e => ha (by subst e; rfl)
      simp [rouW, listsR, rhead, lstW, z12, stpsW, stgsW, numsW, endsW, hne]
    · exact ⟨fun h => absurd h (by decide), fun h => absurd h (by decide), fun h => absurd h (by decide), fun h => absurd h (by decide), fun h => absurd h (by decide), fun h => absurd h (by decide), fun h => absurd h (by decide), fun h => absurd h (by decide), fun h => absurd h (by decide)⟩
theorem list_ok {r r' : Rou} {p k : Int} {w : List UInt8} {a : List (List UInt8)} (he : EmpR r p) (hp : p < k) (hk : 4 ≤ k) (hw : rankF w = k) (ho : RouO r) (ha : a ≠ []) (h : listR r k a = some r') : rouW r' = rouW r ++ [w :: a] ∧ RouO r' ∧ EmpR r' k := by
  rcases rank_word hw (by omega) with ⟨rfl, rfl⟩ | ⟨rfl, rfl⟩ | ⟨rfl, rfl⟩ | ⟨rfl, rfl⟩ | ⟨rfl, rfl⟩ | ⟨rfl, rfl⟩ | ⟨rfl, rfl⟩ | ⟨rfl, rfl⟩ | ⟨rfl, rfl⟩ | ⟨rfl, rfl⟩ | ⟨rfl, rfl⟩ | ⟨rfl, rfl⟩
  · omega
  · omega
  · omega
  · exact list_ok4 he hp ho ha h
  · exact list_ok5 he hp ho ha h
  · exact list_ok6 he hp ho ha h
  · exact list_ok7 he hp ho ha h
  · exact list_ok8 he hp ho ha h
  · exact list_ok9 he hp ho ha h
  · exact list_ok10 he hp ho ha h
  · exact list_ok11 he hp ho ha h
  · exact list_ok12 he hp ho ha h
structure InvT (t : Tab) (p : Int) (m : Lns) : Prop where
  o : TabO t
  hl : t.homes.length = t.pts.length
  p0 : 0 ≤ p
  z : p = 0 → t = zT ∧ m = []
  ln : 1 ≤ p → linesT t = m
  a1 : p ≤ 1 → t.pts = []
  a2 : p ≤ 2 → t.rts = []
  a3 : 3 ≤ p → ∃ rs r, t.rts = rs ++ [r] ∧ EmpR r p
theorem two_of {n : List Int} (h : n.length = 2) : ∃ a b, n = [a, b] := by
  match n, h with
  | [a, b], _ => exact ⟨a, b, rfl⟩
theorem four_of {n : List Int} (h : n.length = 4) : ∃ a b c d, n = [a, b, c, d] := by
  match n, h with
  | [a, b, c, d], _ => exact ⟨a, b, c, d, rfl⟩
theorem inv_step {t t' : Tab} {p : Int} {m : Lns} {ln : List (List UInt8)} (hi : InvT t p m) (h : stepT t p ln = some t') : InvT t' (rankF (ln.headD [])) (m ++ [ln]) := by
  unfold stepT at h
  split at h
  case isFalse => cases h
  rename_i hf
  obtain ⟨k, hk⟩ : ∃ k, rankF (ln.headD []) = k := ⟨_, rfl⟩
  rw [hk] at h hf ⊢
  have hk0 : k ≠ 0 := fun e => by subst e; simp [follB] at hf
  have hln : ln = ln.headD [] :: ln.tail := by
    cases ln with
    | nil => exact absurd hk.symm (by simpa using fun e : k = rankF [] => hk0 (by rw [e]; decide))
    | cons x r => rfl
  generalize ln.headD [] = w at *
  generalize ln.tail = a at *
  subst hln
  have hpos : 1 ≤ k := by
    rcases rank_word hk hk0 with ⟨e, _⟩ | ⟨e, _⟩ | ⟨e, _⟩ | ⟨e, _⟩ | ⟨e, _⟩ | ⟨e, _⟩ | ⟨e, _⟩ | ⟨e, _⟩ | ⟨e, _⟩ | ⟨e, _⟩ | ⟨e, _⟩ | ⟨e, _⟩ <;> omega
  by_cases h1 : k = 1
  · subst h1
    have hp : p = 0 := by simpa [follB] using hf
    obtain ⟨rfl, rfl⟩ := hi.z hp
    obtain rfl : w = tableW := by rcases rank_word hk hk0 with ⟨_, e⟩ | ⟨e, _⟩ | ⟨e, _⟩ | ⟨e, _⟩ | ⟨e, _⟩ | ⟨e, _⟩ | ⟨e, _⟩ | ⟨e, _⟩ | ⟨e, _⟩ | ⟨e, _⟩ | ⟨e, _⟩ | ⟨e, _⟩ <;> first | exact e | omega
    unfold takeT at h
    rw [if_pos rfl] at h
    unfold headT at h
    split at h
    case isFalse => cases h
    rename_i hl2
    cases hn : optI a with
    | none => rw [hn] at h; cases h
    | some n =>
      rw [hn] at h
      simp only [Option.map_some, Option.some.injEq] at h
      obtain ⟨x, y, rfl⟩ := two_of ((optI_len hn).trans hl2)
      obtain ⟨ha, ho⟩ := optI_ok hn
      subst h
      refine ⟨⟨ho, ?_, ?_, ?_⟩, rfl, by omega, by omega, ?_, fun _ => rfl, fun _ => rfl, by omega⟩
      · intro n hn; simp [zT] at hn
      · intro n hn; simp [zT] at hn
      · intro r hr; simp [zT] at hr
      · intro _
        rw [← ha]
        simp [linesT, thead, zT, numsW]
  by_cases h2 : k = 2
  · subst h2
    have hp : p = 1 ∨ p = 2 := by simpa [follB] using hf
    obtain rfl : w = pointW := by rcases rank_word hk hk0 with ⟨e, _⟩ | ⟨_, e⟩ | ⟨e, _⟩ | ⟨e, _⟩ | ⟨e, _⟩ | ⟨e, _⟩ | ⟨e, _⟩ | ⟨e, _⟩ | ⟨e, _⟩ | ⟨e, _⟩ | ⟨e, _⟩ | ⟨e, _⟩ <;> first | exact e | omega
    unfold takeT at h
    rw [if_neg (by decide), if_pos rfl] at h
    unfold pointT at h
    split at h
    case isFalse => cases h
    rename_i hl2
    cases hn : optI a with
    | none => rw [hn] at h; cases h
    | some n =>
      rw [hn] at h
      simp only [Option.map_some, Option.some.injEq] at h
      obtain ⟨x, y, rfl⟩ := two_of ((optI_len hn).trans hl2)
      obtain ⟨ha, ho⟩ := optI_ok hn
      have hr := hi.a2 (by rcases hp with rfl | rfl <;> omega)
      have hm := hi.ln (by rcases hp with rfl | rfl <;> omega)
      subst h
      refine ⟨⟨hi.o.n, ?_, ?_, hi.o.rts⟩, by simp [hi.hl], by omega, by omega, ?_, by omega, fun _ => hr, by omega⟩
      · intro n hn
        rcases List.mem_append.1 hn with h | h
        · exact hi.o.pts n h
        · exact ho n (by simp at h; simp [h])
      · intro n hn
        rcases List.mem_append.1 hn with h | h
        · exact hi.o.homes n h
        · exact ho n (by simp at h; simp [h])
      · intro _
        rw [← ha, ← hm]
        have hz : (t.pts ++ [x]).zip (t.homes ++ [y]) = t.pts.zip t.homes ++ [(x, y)] := by rw [List.zip_append hi.hl.symm]; rfl
        simp [linesT, thead, hr, hz, ptW, numsW]
  by_cases h3 : k = 3
  · subst h3
    have hp : 1 ≤ p := by simpa [follB] using hf
    obtain rfl : w = routeW := by rcases rank_word hk hk0 with ⟨e, _⟩ | ⟨e, _⟩ | ⟨_, e⟩ | ⟨e, _⟩ | ⟨e, _⟩ | ⟨e, _⟩ | ⟨e, _⟩ | ⟨e, _⟩ | ⟨e, _⟩ | ⟨e, _⟩ | ⟨e, _⟩ | ⟨e, _⟩ <;> first | exact e | omega
    unfold takeT at h
    rw [if_neg (by decide), if_neg (by decide), if_pos rfl] at h
    unfold routeT at h
    split at h
    case isFalse => cases h
    rename_i hl2
    cases hn : optI a.tail with
    | none => rw [hn] at h; cases h
    | some n =>
      rw [hn] at h
      simp only [Option.map_some, Option.some.injEq] at h
      have hl4 : n.length = 4 := by rw [optI_len hn, List.length_tail, hl2]
      obtain ⟨c1, c2, c3, c4, rfl⟩ := four_of hl4
      obtain ⟨ha, ho⟩ := optI_ok hn
      have hm := hi.ln hp
      have ha2 : a = a.headD [] :: a.tail := by
        cases a with
        | nil => simp at hl2
        | cons x r => rfl
      generalize a.headD [] = nm at *
      generalize a.tail = b at *
      subst ha2
      subst h
      refine ⟨⟨hi.o.n, hi.o.pts, hi.o.homes, ?_⟩, hi.hl, by omega, by omega, ?_, by omega, by omega, fun _ => ⟨t.rts, _, rfl, ⟨fun _ => rfl, fun _ => rfl, fun _ => rfl, fun _ => rfl, fun _ => rfl, fun _ => rfl, fun _ => rfl, fun _ => rfl, fun _ => rfl⟩⟩⟩
      · intro r hr
        rcases List.mem_append.1 hr with h | h
        · exact hi.o.rts r h
        · simp only [List.mem_singleton] at h
          subst h
          exact ⟨ho, by simp [zR], by simp [zR], by simp [zR, I64s], by simp [zR], by simp [zR], by simp [zR, I64s], by simp [zR], by simp [zR, I64s], by simp [zR]⟩
      · intro _
        rw [← ha, ← hm]
        simp [linesT, thead, rouW, rhead, listsR, lstW, zR, stpsW, stgsW, numsW, endsW]
  have hk4 : 4 ≤ k := by omega
  have hp : 3 ≤ p ∧ p < k := by
    unfold follB at hf
    rw [if_neg hk0, if_neg h1, if_neg h2, if_neg h3] at hf
    simpa using hf
  unfold takeT at h
  rw [if_neg h1, if_neg h2, if_neg h3] at h
  unfold listT at h
  split at h
  case isTrue => cases h
  rename_i hane
  obtain ⟨rs, r, hrs, he⟩ := hi.a3 hp.1
  rw [hrs] at h
  simp only [List.getLastD_concat, List.dropLast_concat] at h
  cases hr : listR r k a with
  | none => rw [hr] at h; cases h
  | some r' =>
    rw [hr] at h
    simp only [Option.map_some, Option.some.injEq] at h
    have hor : RouO r := hi.o.rts r (by rw [hrs]; simp)
    obtain ⟨q1, q2, q3⟩ := list_ok he hp.2 hk4 hk hor hane hr
    have hm := hi.ln (by omega)
    subst h
    refine ⟨⟨hi.o.n, hi.o.pts, hi.o.homes, ?_⟩, hi.hl, by omega, by omega, ?_, by omega, by omega, fun _ => ⟨rs, r', rfl, q3⟩⟩
    · intro x hx
      rcases List.mem_append.1 hx with h | h
      · exact hi.o.rts x (by rw [hrs]; simp [h])
      · simp only [List.mem_singleton] at h
        subst h
        exact q2
    · intro _
      rw [← hm]
      simp [linesT, thead, hrs, List.flatMap_append, q1]
theorem inv_run : ∀ (l : Lns) (t u : Tab) (p q : Int) (m : Lns), InvT t p m → runT t p l = some (u, q) → InvT u q (m ++ l)
  | [], t, u, p, q, m, hi, h => by
    simp only [runT, Option.some.injEq, Prod.mk.injEq] at h
    obtain ⟨rfl, rfl⟩ := h
    rw [List.append_nil]
    exact hi
  | ln :: r, t, u, p, q, m, hi, h => by
    simp only [runT] at h
    cases hs : stepT t p ln with
    | none => rw [hs] at h; cases h
    | some t' =>
      rw [hs] at h
      have := inv_run r t' u _ q (m ++ [ln]) (inv_step hi hs) h
      rwa [List.append_assoc] at this
theorem inv_zero : InvT zT 0 [] := ⟨⟨by intro n hn; simp [zT] at hn; omega, by intro n hn; simp [zT] at hn, by intro n hn; simp [zT] at hn, by intro r hr; simp [zT] at hr⟩, rfl, by omega, fun _ => ⟨rfl, rfl⟩, by omega, fun _ => rfl, fun _ => rfl, by omega⟩
/-- What a text was read as prints as the text. -/
theorem prt_parT {s : List UInt8} {u : Tab} {n : Nat} (h : parT s = (u, n, 0)) : prtT u = (s, 0) ∧ chkT u = 0 ∧ TabO u ∧ n = 0 := by
  unfold parT at h
  split at h
  case isFalse => rename_i h0; simp only [Prod.mk.injEq] at h; exact absurd h.2.2 h0
  rename_i h0
  split at h
  case isTrue => simp at h
  rename_i hne
  obtain ⟨⟨m, k, e⟩, hl⟩ : ∃ r, linesF s = r := ⟨_, rfl⟩
  rw [hl] at h h0 hne
  simp only at h h0 hne
  subst h0
  unfold endT at h
  split at h
  case isFalse => rename_i h2; rw [h] at h2; exact absurd rfl h2
  rename_i h2
  obtain ⟨⟨t, k2, e2⟩, hr⟩ : ∃ r, readT zT 0 0 m = r := ⟨_, rfl⟩
  rw [hr] at h h2
  simp only at h h2
  subst h2
  split at h
  case isFalse => rename_i h3; simp only [Prod.mk.injEq] at h; exact absurd h.2.2 h3
  rename_i hc
  simp only [Prod.mk.injEq, and_true] at h
  obtain ⟨rfl, rfl⟩ := h
  obtain ⟨_, q, hrun⟩ := run_read m zT t 0 0 k2 hr
  have hi := inv_run m zT t 0 q [] inv_zero hrun
  rw [List.nil_append] at hi
  have hq : 1 ≤ q := by
    rcases Int.lt_or_le q 1 with h | h
    · have := (hi.z (by have := hi.p0; omega)).2; exact absurd this hne
    · exact h
  have hlt := hi.ln hq
  refine ⟨?_, hc, hi.o, rfl⟩
  unfold prtT
  rw [if_pos hc, hlt]
  exact join_lines hl
/-! ### How many lines -/
def cnt1 {α : Type} (l : List α) : Nat := min l.length 1
def cntR (r : Rou) : Nat := 1 + cnt1 r.path + cnt1 r.pts + cnt1 r.secs + cnt1 r.over + cnt1 r.opts + cnt1 r.osecs + cnt1 r.flk + cnt1 r.grd + cnt1 r.gap
theorem lst_len (w : List UInt8) (l : List (List UInt8)) : (lstW w l).length = min l.length 1 := by
  unfold lstW
  cases l with
  | nil => rfl
  | cons x r => simp
theorem rou_len (r : Rou) : (rouW r).length = cntR r := by
  simp only [rouW, listsR, List.length_cons, List.length_append, lst_len, stpsW, stgsW, numsW, endsW, List.length_map, cntR, cnt1]
  omega
def sumR (l : List Rou) : Nat := (l.map cntR).sum
theorem sumR_take {l : List Rou} {k : Nat} (h : k < l.length) : sumR (l.take (k + 1)) = sumR (l.take k) + cntR l[k] := by
  unfold sumR
  rw [List.take_succ_eq_append_getElem h, List.map_append, List.sum_append]
  simp
theorem flat_len : ∀ l : List Rou, (l.flatMap rouW).length = sumR l
  | [] => rfl
  | r :: l => by
    have ih := flat_len l
    unfold sumR at ih ⊢
    rw [List.flatMap_cons, List.length_append, ih, rou_len]
    simp
theorem linesT_len {t : Tab} (h : t.homes.length = t.pts.length) : (linesT t).length = 1 + t.pts.length + sumR t.rts := by
  unfold linesT
  simp only [List.length_cons, List.length_append, List.length_map, List.length_zip, flat_len, h, Nat.min_self]
  omega
/-! ### The first error -/
theorem par_lines_bad {s : List UInt8} {m : Lns} {a : Nat} {f : Int} (h : linesF s = (m, a, f)) (hf : f ≠ 0) : parT s = (zT, a, f) := by
  unfold parT
  rw [h]
  simp only
  rw [if_neg hf]
theorem par_empty {s : List UInt8} {a : Nat} (h : linesF s = ([], a, 0)) : parT s = (zT, 1, 4) := by
  unfold parT
  rw [h]
  simp
theorem par_read {s : List UInt8} {m : Lns} {a : Nat} (h : linesF s = (m, a, 0)) (hm : m ≠ []) : parT s = endT (readT zT 0 0 m) := by
  unfold parT
  rw [h]
  simp [hm]
theorem par_bad {s : List UInt8} {m : Lns} {a n : Nat} {u : Tab} {e : Int} (hl : linesF s = (m, a, 0)) (hp : parT s = (u, n, e)) (h1 : 1 ≤ n) (h2 : n ≤ m.length) :
    e = 4 ∧ ∃ x ln b t' q, m = x ++ ln :: b ∧ n = x.length + 1 ∧ runT zT 0 x = some (t', q) ∧ stepT t' q ln = none := by
  have hm : m ≠ [] := fun e => by subst e; simp at h2; omega
  rw [par_read hl hm] at hp
  obtain ⟨⟨t, k, e2⟩, hr⟩ : ∃ r, readT zT 0 0 m = r := ⟨_, rfl⟩
  rw [hr] at hp
  unfold endT at hp
  simp only at hp
  by_cases he : e2 = 0
  · rw [if_pos he] at hp
    split at hp <;> (simp only [Prod.mk.injEq] at hp; omega)
  · rw [if_neg he] at hp
    simp only [Prod.mk.injEq] at hp
    obtain ⟨_, h4, x, ln, b, t', q, h5, h6, h7, h8⟩ := read_bad m zT t 0 0 k e2 hr he
    exact ⟨by omega, x, ln, b, t', q, h5, by omega, h7, h8⟩
theorem join_part {x y : Lns} {s : List UInt8} (h : joinF (x ++ y) = (s, 0)) : ∃ s', joinF x = (s', 0) ∧ s'.length ≤ s.length := by
  unfold joinF at h ⊢
  split at h
  · rename_i hg
    rw [List.all_append, Bool.and_eq_true] at hg
    rw [if_pos hg.1]
    split at h
    · simp at h
    · rename_i hlen
      simp only [Prod.mk.injEq, and_true] at h
      have hle : (textOf x).length ≤ (textOf (x ++ y)).length := by simp [textOf]
      rw [if_neg (by omega)]
      exact ⟨_, rfl, by rw [← h]; exact hle⟩
  · simp at h
theorem par_before {x : Lns} {s : List UInt8} {t' : Tab} {q : Int} (hj : joinF x = (s, 0)) (hx : x ≠ []) (hr : runT zT 0 x = some (t', q)) : (parT s).2.1 = 0 := by
  rw [par_read (lines_join hj) hx]
  have h2 := read_run x [] zT t' 0 q 0 hr
  rw [List.append_nil] at h2
  rw [h2]
  unfold readT endT
  simp only [if_true]
  split <;> rfl
theorem par_tail {x b : Lns} {ln : List (List UInt8)} {s : List UInt8} {t' : Tab} {q : Int} (hj : joinF (x ++ ln :: b) = (s, 0)) (hr : runT zT 0 x = some (t', q)) (hs : stepT t' q ln = none) : parT s = (zT, x.length + 1, 4) := by
  rw [par_read (lines_join hj) (by simp)]
  rw [read_run x (ln :: b) zT t' 0 q 0 hr]
  simp [readT, hs, endT]
/-! ### Commas -/
def commas (s : List UInt8) : Nat := (s.filter fun c => decide (c = 44)).length
theorem spl_commas : ∀ s : List UInt8, (spl 44 s).length = commas s + 1
  | [] => rfl
  | c :: r => by
    have ih := spl_commas r
    unfold commas at ih ⊢
    unfold spl
    by_cases h : c = 44
    · subst h
      simp [ih]
    · simp [h, ih]
theorem listK_len : ∀ (ps : List (List UInt8)) (acc a : List Int), listK acc ps = (a, 0) → a.length = acc.length + ps.length := fun ps acc a h => by
  obtain ⟨b, rfl, h2, _⟩ := listK_ok ps acc a h
  rw [List.length_append, ← h2, List.length_map]
/-- A word whose commas are not one less than k has no list of k numbers. -/
theorem part_commas {k : Nat} (hk : 1 ≤ k) {w : List UInt8} (h : partB k w = true) : commas w = k - 1 := by
  unfold partB at h
  simp only [Bool.and_eq_true, decide_eq_true_eq] at h
  obtain ⟨h1, h2⟩ := h
  unfold listF at h1 h2
  split at h1
  · rename_i hw
    rw [if_pos hw] at h2
    simp at h2
    omega
  · rename_i hw
    rw [if_neg hw] at h2
    have := listK_len (spl 44 w) [] (listK [] (spl 44 w)).1 (by rw [← h1])
    rw [spl_commas, h2] at this
    simp at this
    omega
/-! ### The check, step by step -/
theorem chkT_lim {t : Tab} (h : limB t = false) : chkT t = 2 := by unfold chkT; rw [if_pos h]
theorem chkT_pts {t : Tab} (h1 : limB t = true) (h : ptsB t = false) : chkT t = 1 := by unfold chkT; rw [if_neg (by simp [h1]), if_pos h]
theorem chkT_rou {t : Tab} (h1 : limB t = true) (h2 : ptsB t = true) (h : t.rts.all (rouB t) = false) : chkT t = 1 := by unfold chkT; rw [if_neg (by simp [h1]), if_neg (by simp [h2]), if_pos h]
theorem chkT_set {t : Tab} (h1 : limB t = true) (h2 : ptsB t = true) (h : t.rts.all (setB t) = false) : chkT t = 1 := by
  unfold chkT
  rw [if_neg (by simp [h1]), if_neg (by simp [h2])]
  by_cases h3 : t.rts.all (rouB t) = false
  · rw [if_pos h3]
  · rw [if_neg h3, if_pos h]
theorem chkT_agr {t : Tab} (h1 : limB t = true) (h2 : ptsB t = true) (h3 : t.rts.all (rouB t) = true) (h4 : t.rts.all (setB t) = true) (h : t.rts.all agB = false) : chkT t = 10 := by
  unfold chkT
  rw [if_neg (by simp [h1]), if_neg (by simp [h2]), if_neg (by rw [h3]; simp), if_neg (by rw [h4]; simp), if_pos h]
theorem chkT_dup {t : Tab} (h1 : limB t = true) (h2 : ptsB t = true) (h3 : t.rts.all (rouB t) = true) (h4 : t.rts.all (setB t) = true) (h5 : t.rts.all agB = true) (h : ¬ (t.rts.map Rou.name).Nodup) : chkT t = 8 := by
  unfold chkT
  rw [if_neg (by simp [h1]), if_neg (by simp [h2]), if_neg (by rw [h3]; simp), if_neg (by rw [h4]; simp), if_neg (by rw [h5]; simp), if_pos (decide_eq_false h)]
theorem chkT_all {t : Tab} (h1 : limB t = true) (h2 : ptsB t = true) (h3 : t.rts.all (rouB t) = true) (h4 : t.rts.all (setB t) = true) (h5 : t.rts.all agB = true) (h : (t.rts.map Rou.name).Nodup) : chkT t = 0 := by
  unfold chkT
  rw [if_neg (by simp [h1]), if_neg (by simp [h2]), if_neg (by rw [h3]; simp), if_neg (by rw [h4]; simp), if_neg (by rw [h5]; simp), if_neg (by simp [h])]
/-- The reference's one loop over the third and the fourth condition. -/
theorem all_both {t : Tab} : (t.rts.all fun r => rouB t r && setB t r) = (t.rts.all (rouB t) && t.rts.all (setB t)) := by
  induction t.rts with
  | nil => rfl
  | cons r l ih => simp only [List.all_cons, ih]; cases rouB t r <;> cases setB t r <;> cases l.all (rouB t) <;> simp
/-- The first place of a datum in a list. -/
def fstI {α : Type} [DecidableEq α] : List α → α → Int
  | [], _ => -1
  | y :: r, x => if y = x then 0 else if fstI r x < 0 then -1 else fstI r x + 1
theorem fstI_ge {α : Type} [DecidableEq α] : ∀ (l : List α) (x : α), -1 ≤ fstI l x
  | [], _ => by simp [fstI]
  | y :: r, x => by
    have := fstI_ge r x
    unfold fstI
    split
    · omega
    · split <;> omega
theorem fstI_at {α : Type} [DecidableEq α] {l : List α} {k : Nat} (hk : k < l.length) (hn : l[k] ∉ l.take k) : fstI l l[k] = (k : Int) := by
  induction l generalizing k with
  | nil => simp at hk
  | cons y r ih =>
    cases k with
    | zero => simp [fstI]
    | succ k =>
      simp only [List.getElem_cons_succ, List.take_succ_cons, List.mem_cons, not_or] at hn ⊢
      have h := ih (k := k) (by simpa using hk) hn.2
      unfold fstI
      rw [if_neg (fun e => hn.1 e.symm), h, if_neg (by omega)]
      omega
theorem fstI_mem {α : Type} [DecidableEq α] {l : List α} {k : Nat} (hk : k < l.length) (hn : l[k] ∈ l.take k) : fstI l l[k] ≠ (k : Int) := by
  induction l generalizing k with
  | nil => simp at hk
  | cons y r ih =>
    cases k with
    | zero => simp at hn
    | succ k =>
      simp only [List.getElem_cons_succ, List.take_succ_cons, List.mem_cons] at hn ⊢
      unfold fstI
      by_cases e : y = r[k]'(by simpa using hk)
      · rw [if_pos e]; omega
      · rw [if_neg e]
        have hm : r[k]'(by simpa using hk) ∈ r.take k := by
          rcases hn with h | h
          · exact absurd h.symm e
          · exact h
        have h := ih (k := k) (by simpa using hk) hm
        split <;> omega
theorem fstI_neg {α : Type} [DecidableEq α] {l : List α} {x : α} : fstI l x < 0 ↔ x ∉ l := by
  induction l with
  | nil => simp [fstI]
  | cons y r ih =>
    unfold fstI
    by_cases e : y = x
    · rw [if_pos e]; simp [e]
    · rw [if_neg e]
      have := fstI_ge r x
      simp only [List.mem_cons, not_or]
      constructor
      · intro h
        refine ⟨fun h2 => e h2.symm, ih.1 ?_⟩
        split at h <;> omega
      · rintro ⟨_, h⟩
        rw [if_pos (ih.2 h)]
        omega
/-! ### The reference's forms -/
theorem fmt_one (n : Int) : fmtF [n] = Lib.itoa n := by simp [fmtF, Lib.join]
theorem list_one {w : List UInt8} {n : Int} (h : intF w = (n, 0)) : listF w = ([n], 0) := by
  obtain ⟨h1, h2⟩ := itoa_int h
  rw [← h1, ← fmt_one]
  exact list_fmt [n] (fun m hm => by simp only [List.mem_singleton] at hm; subst hm; exact h2)
theorem one_list {w : List UInt8} {n : Int} (h : listF w = ([n], 0)) : intF w = (n, 0) := by
  obtain ⟨h1, h2⟩ := fmt_list h
  have h3 := h2 n (by simp)
  rw [← h1, fmt_one]
  exact int_itoa n h3.1 h3.2
/-- A list of one number is a number. -/
theorem part_int (w : List UInt8) : partB 1 w = decide ((intF w).2 = 0) := by
  rw [Bool.eq_iff_iff]
  unfold partB
  simp only [Bool.and_eq_true, decide_eq_true_eq]
  constructor
  · rintro ⟨h1, h2⟩
    obtain ⟨n, hn⟩ := List.length_eq_one_iff.1 h2
    have h3 : listF w = ([n], 0) := by rw [← hn, ← h1]
    rw [one_list h3]
  · intro h
    have h3 := list_one (w := w) (n := (intF w).1) (by rw [← h])
    rw [h3]
    exact ⟨rfl, rfl⟩
theorem part_val {w : List UInt8} (h : (intF w).2 = 0) : (listF w).1 = [(intF w).1] := by rw [list_one (w := w) (n := (intF w).1) (by rw [← h])]
/-- The reference's order of forms, its ranks being one less. -/
def rfoll (b k : Int) : Bool := if b < 2 then decide (k = 1) || decide (k = 2) else decide (k = 2) || decide (b < k)
theorem foll_r {p k : Int} (hp : 0 ≤ p) (hk : 0 ≤ k) : follB p k = if p = 0 then decide (k = 1) else rfoll (p - 1) (k - 1) := by
  rw [Bool.eq_iff_iff]
  have h1 : (follB p k = true) ↔ (k = 1 ∧ p = 0) ∨ (k = 2 ∧ (p = 1 ∨ p = 2)) ∨ (k = 3 ∧ 1 ≤ p) ∨ (4 ≤ k ∧ 3 ≤ p ∧ p < k) := by
    unfold follB
    by_cases c0 : k = 0
    · rw [if_pos c0]; simp; omega
    by_cases c1 : k = 1
    · rw [if_neg c0, if_pos c1]; simp only [decide_eq_true_eq]; omega
    by_cases c2 : k = 2
    · rw [if_neg c0, if_neg c1, if_pos c2]; simp only [Bool.or_eq_true, decide_eq_true_eq]; omega
    by_cases c3 : k = 3
    · rw [if_neg c0, if_neg c1, if_neg c2, if_pos c3]; simp only [decide_eq_true_eq]; omega
    rw [if_neg c0, if_neg c1, if_neg c2, if_neg c3]
    simp only [Bool.and_eq_true, decide_eq_true_eq]
    omega
  rw [h1]
  by_cases h0 : p = 0
  · rw [if_pos h0]; simp only [decide_eq_true_eq]; omega
  · rw [if_neg h0]
    unfold rfoll
    by_cases h2 : p - 1 < 2
    · rw [if_pos h2]; simp only [Bool.or_eq_true, decide_eq_true_eq]; omega
    · rw [if_neg h2]; simp only [Bool.or_eq_true, decide_eq_true_eq]; omega
end Go.Proofs.YtlblfblkallnhaaGreatDoor
namespace Go.Proofs.YtlblfblkallnhaaGreatDoor
set_option linter.unusedVariables false
set_option linter.unusedSimpArgs false
open Go.RowKit
def formsW : List (List UInt8) := [tableW, pointW, routeW, pathW, pointsW, sectionsW, overW, overpointsW, oversectionsW, flankW, guardsW, gapsW]
theorem rank_fst (s : List UInt8) : fstI formsW s = rankF s - 1 := by
  by_cases h0 : rankF s = 0
  · rw [h0]
    have h : s ∉ formsW := by
      intro hm
      simp only [formsW, List.mem_cons, List.not_mem_nil, or_false] at hm
      rcases hm with rfl | rfl | rfl | rfl | rfl | rfl | rfl | rfl | rfl | rfl | rfl | rfl <;> revert h0 <;> decide
    have h1 := fstI_neg.2 h
    have h2 := fstI_ge formsW s
    omega
  · obtain ⟨k, hk⟩ : ∃ k, rankF s = k := ⟨_, rfl⟩
    have := rank_word hk (by omega)
    rcases this with ⟨rfl, rfl⟩ | ⟨rfl, rfl⟩ | ⟨rfl, rfl⟩ | ⟨rfl, rfl⟩ | ⟨rfl, rfl⟩ | ⟨rfl, rfl⟩ | ⟨rfl, rfl⟩ | ⟨rfl, rfl⟩ | ⟨rfl, rfl⟩ | ⟨rfl, rfl⟩ | ⟨rfl, rfl⟩ | ⟨rfl, rfl⟩ <;> rw [hk] <;> decide
def widthF (w : List UInt8) : Nat := if w = pathW then 3 else if w = overW then 3 else if w = sectionsW then 1 else if w = oversectionsW then 1 else if w = guardsW then 1 else 2
def valsW (w : List UInt8) (a : List (List UInt8)) : Option (List Int) := if a = [] then none else (optP (widthF w) a).map List.flatten
def headsW (l : List (List UInt8)) (f n : Nat) : Option (List Int) := if l.length = f + n then optI (l.drop f) else none
def stp3 (l : List Int) (i : Nat) : Stp := ⟨l.getD (i * 3) 0, l.getD (i * 3 + 1) 0, l.getD (i * 3 + 2) 0⟩
def stg2 (l : List Int) (i : Nat) : Stg := ⟨l.getD (i * 2) 0, l.getD (i * 2 + 1) 0⟩
def end2 (l : List Int) (i : Nat) : End2 := ⟨l.getD (i * 2) 0, l.getD (i * 2 + 1) 0⟩
def pathF (l : List Int) : List Stp := (List.range (l.length / 3)).map (stp3 l)
def placesF (l : List Int) : List Stg := (List.range (l.length / 2)).map (stg2 l)
def gapsF (l : List Int) : List End2 := (List.range (l.length / 2)).map (end2 l)
def withF (r : Rou) (w : List UInt8) (l : List Int) : Rou :=
  if w = pathW then { r with path := pathF l }
  else if w = pointsW then { r with pts := placesF l }
  else if w = sectionsW then { r with secs := l }
  else if w = overW then { r with over := pathF l }
  else if w = overpointsW then { r with opts := placesF l }
  else if w = oversectionsW then { r with osecs := l }
  else if w = flankW then { r with flk := placesF l }
  else if w = guardsW then { r with grd := l }
  else if w = gapsW then { r with gap := gapsF l }
  else r
theorem flat_len3 {n : Nat} : ∀ {xs : List (List Int)}, (∀ x ∈ xs, x.length = n) → xs.flatten.length = xs.length * n
  | [], _ => by simp
  | x :: r, h => by
    have h1 := h x (by simp)
    have ih := flat_len3 (n := n) (xs := r) fun y hy => h y (by simp [hy])
    rw [List.flatten_cons, List.length_append, ih, h1, List.length_cons, Nat.succ_mul]
    omega
theorem flat_at {n : Nat} : ∀ {xs : List (List Int)}, (∀ x ∈ xs, x.length = n) → ∀ {i : Nat} (hi : i < xs.length) (j : Nat), j < n → xs.flatten.getD (i * n + j) 0 = (xs[i]).getD j 0
  | [], _, i, hi, _, _ => by simp at hi
  | x :: r, h, 0, _, j, hj => by
    have h1 := h x (by simp)
    simp only [List.flatten_cons, Nat.zero_mul, Nat.zero_add, List.getElem_cons_zero]
    rw [List.getD_eq_getElem?_getD, List.getD_eq_getElem?_getD, List.getElem?_append_left (by omega)]
  | x :: r, h, i + 1, hi, j, hj => by
    have h1 := h x (by simp)
    have ih := flat_at (n := n) (xs := r) (fun y hy => h y (by simp [hy])) (i := i) (by simpa using hi) j hj
    simp only [List.getElem_cons_succ]
    rw [← ih, List.flatten_cons, List.getD_eq_getElem?_getD, List.getD_eq_getElem?_getD, List.getElem?_append_right (by rw [Nat.succ_mul]; omega)]
    congr 2
    rw [Nat.succ_mul]
    omega
theorem grp {α : Type} {n : Nat} (hn : 0 < n) (f : List Int → Nat → α) (mk : List Int → α) {xs : List (List Int)} (h : ∀ x ∈ xs, x.length = n) (hf : ∀ i (hi : i < xs.length), f xs.flatten i = mk xs[i]) : (List.range (xs.flatten.length / n)).map (f xs.flatten) = xs.map mk := by
  rw [flat_len3 h, Nat.mul_div_cancel _ hn]
  apply List.ext_getElem
  · simp
  · intro i h1 h2
    simp only [List.length_map, List.length_range] at h1
    simp [hf i h1]
theorem path_flat {xs : List (List Int)} (h : ∀ x ∈ xs, x.length = 3) : pathF xs.flatten = xs.map mkStp :=
  grp (n := 3) (by omega) stp3 mkStp h fun i hi => by
    have h0 := flat_at h hi 0 (by omega)
    have h1 := flat_at h hi 1 (by omega)
    have h2 := flat_at h hi 2 (by omega)
    simp only [Nat.add_zero] at h0
    unfold stp3 mkStp
    rw [h0, h1, h2]
theorem places_flat {xs : List (List Int)} (h : ∀ x ∈ xs, x.length = 2) : placesF xs.flatten = xs.map mkStg :=
  grp (n := 2) (by omega) stg2 mkStg h fun i hi => by
    have h0 := flat_at h hi 0 (by omega)
    have h1 := flat_at h hi 1 (by omega)
    simp only [Nat.add_zero] at h0
    unfold stg2 mkStg
    rw [h0, h1]
theorem gaps_flat {xs : List (List Int)} (h : ∀ x ∈ xs, x.length = 2) : gapsF xs.flatten = xs.map mkEnd :=
  grp (n := 2) (by omega) end2 mkEnd h fun i hi => by
    have h0 := flat_at h hi 0 (by omega)
    have h1 := flat_at h hi 1 (by omega)
    simp only [Nat.add_zero] at h0
    unfold end2 mkEnd
    rw [h0, h1]
theorem optP_one (a : List (List UInt8)) : (optP 1 a).map List.flatten = optI a := by
  have e : ∀ l : List (List UInt8), (l.all (partB 1)) = (l.all fun w => decide ((intF w).2 = 0)) := fun l => by
    induction l with
    | nil => rfl
    | cons x r ih => rw [List.all_cons, List.all_cons, part_int, ih]
  unfold optP optI
  rw [e]
  split
  · rename_i h
    rw [Option.map_some]
    congr 1
    clear e
    induction a with
    | nil => rfl
    | cons x r ih =>
      rw [List.all_cons, Bool.and_eq_true, decide_eq_true_eq] at h
      rw [List.map_cons, List.flatten_cons, List.map_cons, ih h.2, part_val h.1]
      rfl
  · rfl
theorem list_with {r : Rou} {k : Int} {w : List UInt8} {a : List (List UInt8)} (hw : rankF w = k) (hk : 4 ≤ k) : listR r k a = (optP (widthF w) a).map fun xs => withF r w xs.flatten := by
  have hw2 : ∀ n, widthF w = n → ∀ xs, optP (widthF w) a = some xs → ∀ x ∈ xs, x.length = n := fun n hn xs hx x hm => by rw [hn] at hx; exact ((optP_ok hx).2 x hm).2
  have key3 : ∀ (f : List Stp → Rou) (g : List Int → Rou), widthF w = 3 → (∀ l, g l = f (pathF l)) → (optS a).map f = (optP (widthF w) a).map fun xs => g xs.flatten := fun f g hn hg => by
    unfold optS
    cases hx : optP (widthF w) a with
    | none => rw [hn] at hx; rw [hx]; rfl
    | some xs => have h3 := hw2 3 hn xs hx; rw [hn] at hx; rw [hx]; simp only [Option.map_some]; rw [hg, path_flat h3]
  have key2 : ∀ (f : List Stg → Rou) (g : List Int → Rou), widthF w = 2 → (∀ l, g l = f (placesF l)) → (optG a).map f = (optP (widthF w) a).map fun xs => g xs.flatten := fun f g hn hg => by
    unfold optG
    cases hx : optP (widthF w) a with
    | none => rw [hn] at hx; rw [hx]; rfl
    | some xs => have h3 := hw2 2 hn xs hx; rw [hn] at hx; rw [hx]; simp only [Option.map_some]; rw [hg, places_flat h3]
  have keyE : ∀ (f : List End2 → Rou) (g : List Int → Rou), widthF w = 2 → (∀ l, g l = f (gapsF l)) → (optE a).map f = (optP (widthF w) a).map fun xs => g xs.flatten := fun f g hn hg => by
    unfold optE
    cases hx : optP (widthF w) a with
    | none => rw [hn] at hx; rw [hx]; rfl
    | some xs => have h3 := hw2 2 hn xs hx; rw [hn] at hx; rw [hx]; simp only [Option.map_some]; rw [hg, gaps_flat h3]
  have key1 : ∀ (f : List Int → Rou) (g : List Int → Rou), widthF w = 1 → (∀ l, g l = f l) → (optI a).map f = (optP (widthF w) a).map fun xs => g xs.flatten := fun f g hn hg => by
    rw [← optP_one, hn]
    cases optP 1 a with
    | none => rfl
    | some xs => simp only [Option.map_some]; rw [hg]
  have := rank_word hw (by omega)
  rcases this with ⟨rfl, -⟩ | ⟨rfl, -⟩ | ⟨rfl, -⟩ | ⟨rfl, rfl⟩ | ⟨rfl, rfl⟩ | ⟨rfl, rfl⟩ | ⟨rfl, rfl⟩ | ⟨rfl, rfl⟩ | ⟨rfl, rfl⟩ | ⟨rfl, rfl⟩ | ⟨rfl, rfl⟩ | ⟨rfl, rfl⟩
  · omega
  · omega
  · omega
  · exact key3 (fun x => { r with path := x }) (withF r pathW) (by decide) (fun l => by unfold withF; rw [if_pos rfl])
  · exact key2 (fun x => { r with pts := x }) (withF r pointsW) (by decide) (fun l => by unfold withF; rw [if_neg (by decide), if_pos rfl])
  · exact key1 (fun x => { r with secs := x }) (withF r sectionsW) (by decide) (fun l => by unfold withF; rw [if_neg (by decide), if_neg (by decide), if_pos rfl])
  · exact key3 (fun x => { r with over := x }) (withF r overW) (by decide) (fun l => by unfold withF; rw [if_neg (by decide), if_neg (by decide), if_neg (by decide), if_pos rfl])
  · exact key2 (fun x => { r with opts := x }) (withF r overpointsW) (by decide) (fun l => by unfold withF; rw [if_neg (by decide), if_neg (by decide), if_neg (by decide), if_neg (by decide), if_pos rfl])
  · exact key1 (fun x => { r with osecs := x }) (withF r oversectionsW) (by decide) (fun l => by unfold withF; rw [if_neg (by decide), if_neg (by decide), if_neg (by decide), if_neg (by decide), if_neg (by decide), if_pos rfl])
  · exact key2 (fun x => { r with flk := x }) (withF r flankW) (by decide) (fun l => by unfold withF; rw [if_neg (by decide), if_neg (by decide), if_neg (by decide), if_neg (by decide), if_neg (by decide), if_neg (by decide), if_pos rfl])
  · exact key1 (fun x => { r with grd := x }) (withF r guardsW) (by decide) (fun l => by unfold withF; rw [if_neg (by decide), if_neg (by decide), if_neg (by decide), if_neg (by decide), if_neg (by decide), if_neg (by decide), if_neg (by decide), if_pos rfl])
  · exact keyE (fun x => { r with gap := x }) (withF r gapsW) (by decide) (fun l => by unfold withF; rw [if_neg (by decide), if_neg (by decide), if_neg (by decide), if_neg (by decide), if_neg (by decide), if_neg (by decide), if_neg (by decide), if_neg (by decide), if_pos rfl])
/-- A list's line, in the reference's words. -/
theorem listT_with {t : Tab} {k : Int} {w : List UInt8} {a : List (List UInt8)} (hw : rankF w = k) (hk : 4 ≤ k) : listT t k a = (valsW w a).map fun l => { t with rts := t.rts.dropLast ++ [withF (t.rts.getLastD zR) w l] } := by
  unfold listT valsW
  by_cases ha : a = []
  · rw [if_pos ha, if_pos ha]; rfl
  · rw [if_neg ha, if_neg ha, list_with hw hk]
    cases optP (widthF w) a <;> rfl
theorem headT_heads {t : Tab} {w : List UInt8} {a : List (List UInt8)} : headT t a = (headsW (w :: a) 1 2).map fun n => { t with nsec := n.getD 0 0, nsig := n.getD 1 0 } := by
  unfold headT headsW
  by_cases h : a.length = 2
  · rw [if_pos h, if_pos (by simp [h])]; rfl
  · rw [if_neg h, if_neg (by simp; omega)]; rfl
theorem pointT_heads {t : Tab} {w : List UInt8} {a : List (List UInt8)} : pointT t a = (headsW (w :: a) 1 2).map fun n => { t with pts := t.pts ++ [n.getD 0 0], homes := t.homes ++ [n.getD 1 0] } := by
  unfold pointT headsW
  by_cases h : a.length = 2
  · rw [if_pos h, if_pos (by simp [h])]; rfl
  · rw [if_neg h, if_neg (by simp; omega)]; rfl
theorem routeT_heads {t : Tab} {w : List UInt8} {a : List (List UInt8)} : routeT t a = (headsW (w :: a) 2 4).map fun n => { t with rts := t.rts ++ [{ zR with name := a.headD [], ent := n.getD 0 0, ext := n.getD 1 0, app := n.getD 2 0, len := n.getD 3 0 }] } := by
  unfold routeT headsW
  by_cases h : a.length = 5
  · rw [if_pos h, if_pos (by simp [h])]
    cases a with
    | nil => simp at h
    | cons x r => rfl
  · rw [if_neg h, if_neg (by simp; omega)]; rfl
theorem headsW_len {l : List (List UInt8)} {f n : Nat} {x : List Int} (h : headsW l f n = some x) : x.length = n ∧ l.length = f + n := by
  unfold headsW at h
  split at h
  · rename_i h1
    have := optI_len h
    rw [List.length_drop] at this
    exact ⟨by omega, h1⟩
  · cases h
end Go.Proofs.YtlblfblkallnhaaGreatDoor
