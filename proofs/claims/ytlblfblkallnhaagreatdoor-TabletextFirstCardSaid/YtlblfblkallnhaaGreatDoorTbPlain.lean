/- The plain content of chapter 17: tables, their check, their text. -/
import Derived.Test.YtlblfblkallnhaaGreatDoorWdNum
namespace Go.Proofs.YtlblfblkallnhaaGreatDoor
set_option linter.unusedVariables false
set_option linter.unusedSimpArgs false
open Go.RowKit
/-! ### The data -/
structure Stp where
  el : Int
  inn : Int
  out : Int
deriving DecidableEq
structure Stg where
  el : Int
  pos : Int
deriving DecidableEq
structure End2 where
  el : Int
  sd : Int
deriving DecidableEq
structure Rou where
  name : List UInt8
  ent : Int
  ext : Int
  app : Int
  len : Int
  path : List Stp
  pts : List Stg
  secs : List Int
  over : List Stp
  opts : List Stg
  osecs : List Int
  flk : List Stg
  grd : List Int
  gap : List End2
deriving DecidableEq
structure Tab where
  rts : List Rou
  pts : List Int
  homes : List Int
  nsec : Int
  nsig : Int
deriving DecidableEq
def zT : Tab := ⟨[], [], [], 0, 0⟩
def inB (n lo hi : Int) : Bool := decide (lo ≤ n) && decide (n ≤ hi)
theorem inB_iff {n lo hi : Int} : inB n lo hi = true ↔ lo ≤ n ∧ n ≤ hi := by simp [inB]
/-! ### The check -/
def limB (t : Tab) : Bool := decide (t.rts.length ≤ 48) && (decide (t.pts.length ≤ 32) && (inB t.nsec 0 24 && inB t.nsig 0 20))
def ptB (t : Tab) (i : Nat) : Bool := decide (0 ≤ t.pts.getD i 0) && ((decide (i = 0) || decide (t.pts.getD (i - 1) 0 < t.pts.getD i 0)) && inB (t.homes.getD i 0) 0 (t.nsec - 1))
def ptsB (t : Tab) : Bool := decide (t.homes.length = t.pts.length) && (List.range t.pts.length).all (ptB t)
def sscB (t : Tab) (l : List Int) : Bool := (l.all fun s => inB s 0 (t.nsec - 1)) && decide l.Nodup
def rouB (t : Tab) (r : Rou) : Bool := inB r.ent 0 (t.nsig - 1) && (inB r.ext (-1) (t.nsig - 1) && ((decide (1 ≤ r.path.length) && decide (r.path.length ≤ 12)) && ((decide (r.secs ≠ []) && sscB t (r.secs ++ r.osecs)) && (inB r.app 0 (t.nsec - 1) && decide (1 ≤ r.len)))))
def zG : Stg := ⟨0, 0⟩
def stB (t : Tab) (l : List Stg) (i : Nat) : Bool := decide ((l.getD i zG).el ∈ t.pts) && ((decide ((l.getD i zG).pos = 1) || decide ((l.getD i zG).pos = 2)) && (decide (i = 0) || decide ((l.getD (i - 1) zG).el < (l.getD i zG).el)))
def stsB (t : Tab) (l : List Stg) : Bool := (List.range l.length).all (stB t l)
def setB (t : Tab) (r : Rou) : Bool := stsB t r.pts && (stsB t r.opts && stsB t r.flk)
def agrB (a b : List Stg) : Bool := a.all fun x => b.all fun y => !(decide (x.el = y.el) && decide (x.pos ≠ y.pos))
def agB (r : Rou) : Bool := agrB r.pts r.opts && (agrB r.pts r.flk && agrB r.opts r.flk)
def chkT (t : Tab) : Int := if limB t = false then 2 else if ptsB t = false then 1 else if t.rts.all (rouB t) = false then 1 else if t.rts.all (setB t) = false then 1 else if t.rts.all agB = false then 10 else if decide (t.rts.map Rou.name).Nodup = false then 8 else 0
theorem chkT_ok {t : Tab} (h : chkT t = 0) : limB t = true ∧ ptsB t = true ∧ t.rts.all (rouB t) = true ∧ t.rts.all (setB t) = true ∧ t.rts.all agB = true ∧ (t.rts.map Rou.name).Nodup := by
  unfold chkT at h
  repeat' (split at h)
  all_goals first
    | (exfalso; omega)
    | simp_all
/-! ### The text -/
def tableW : List UInt8 := [116, 97, 98, 108, 101]
def pointW : List UInt8 := [112, 111, 105, 110, 116]
def routeW : List UInt8 := [114, 111, 117, 116, 101]
def pathW : List UInt8 := [112, 97, 116, 104]
def pointsW : List UInt8 := [112, 111, 105, 110, 116, 115]
def sectionsW : List UInt8 := [115, 101, 99, 116, 105, 111, 110, 115]
def overW : List UInt8 := [111, 118, 101, 114]
def overpointsW : List UInt8 := [111, 118, 101, 114, 112, 111, 105, 110, 116, 115]
def oversectionsW : List UInt8 := [111, 118, 101, 114, 115, 101, 99, 116, 105, 111, 110, 115]
def flankW : List UInt8 := [102, 108, 97, 110, 107]
def guardsW : List UInt8 := [103, 117, 97, 114, 100, 115]
def gapsW : List UInt8 := [103, 97, 112, 115]
def stpN (s : Stp) : List Int := [s.el, s.inn, s.out]
def stgN (s : Stg) : List Int := [s.el, s.pos]
def endN (s : End2) : List Int := [s.el, s.sd]
def lstW (w : List UInt8) (l : List (List UInt8)) : Lns := if l = [] then [] else [w :: l]
def stpsW (l : List Stp) : List (List UInt8) := l.map fun s => fmtF (stpN s)
def stgsW (l : List Stg) : List (List UInt8) := l.map fun s => fmtF (stgN s)
def endsW (l : List End2) : List (List UInt8) := l.map fun s => fmtF (endN s)
def numsW (l : List Int) : List (List UInt8) := l.map Lib.itoa
def listsR (r : Rou) : Lns :=
  lstW pathW (stpsW r.path) ++ (lstW pointsW (stgsW r.pts) ++ (lstW sectionsW (numsW r.secs) ++ (lstW overW (stpsW r.over) ++ (lstW overpointsW (stgsW r.opts) ++ (lstW oversectionsW (numsW r.osecs) ++ (lstW flankW (stgsW r.flk) ++ (lstW guardsW (numsW r.grd) ++ lstW gapsW (endsW r.gap))))))))
def rhead (r : Rou) : List (List UInt8) := [routeW, r.name, Lib.itoa r.ent, Lib.itoa r.ext, Lib.itoa r.app, Lib.itoa r.len]
def rouW (r : Rou) : Lns := rhead r :: listsR r
def ptW (p : Int × Int) : List (List UInt8) := [pointW, Lib.itoa p.1, Lib.itoa p.2]
def thead (t : Tab) : List (List UInt8) := [tableW, Lib.itoa t.nsec, Lib.itoa t.nsig]
def linesT (t : Tab) : Lns := thead t :: ((t.pts.zip t.homes).map ptW ++ t.rts.flatMap rouW)
def prtT (t : Tab) : List UInt8 × Int := if chkT t = 0 then joinF (linesT t) else ([], chkT t)
/-! ### Reading -/
def rankF (w : List UInt8) : Int := if w = tableW then 1 else if w = pointW then 2 else if w = routeW then 3 else if w = pathW then 4 else if w = pointsW then 5 else if w = sectionsW then 6 else if w = overW then 7 else if w = overpointsW then 8 else if w = oversectionsW then 9 else if w = flankW then 10 else if w = guardsW then 11 else if w = gapsW then 12 else 0
def optI (l : List (List UInt8)) : Option (List Int) := if (l.all fun w => decide ((intF w).2 = 0)) = true then some (l.map fun w => (intF w).1) else none
def partB (n : Nat) (w : List UInt8) : Bool := decide ((listF w).2 = 0) && decide ((listF w).1.length = n)
def optP (n : Nat) (l : List (List UInt8)) : Option (List (List Int)) := if l.all (partB n) = true then some (l.map fun w => (listF w).1) else none
def mkStp (l : List Int) : Stp := ⟨l.getD 0 0, l.getD 1 0, l.getD 2 0⟩
def mkStg (l : List Int) : Stg := ⟨l.getD 0 0, l.getD 1 0⟩
def mkEnd (l : List Int) : End2 := ⟨l.getD 0 0, l.getD 1 0⟩
def optS (l : List (List UInt8)) : Option (List Stp) := (optP 3 l).map fun x => x.map mkStp
def optG (l : List (List UInt8)) : Option (List Stg) := (optP 2 l).map fun x => x.map mkStg
def optE (l : List (List UInt8)) : Option (List End2) := (optP 2 l).map fun x => x.map mkEnd
def listR (r : Rou) (k : Int) (a : List (List UInt8)) : Option Rou :=
  if k = 4 then (optS a).map fun x => { r with path := x }
  else if k = 5 then (optG a).map fun x => { r with pts := x }
  else if k = 6 then (optI a).map fun x => { r with secs := x }
  else if k = 7 then (optS a).map fun x => { r with over := x }
  else if k = 8 then (optG a).map fun x => { r with opts := x }
  else if k = 9 then (optI a).map fun x => { r with osecs := x }
  else if k = 10 then (optG a).map fun x => { r with flk := x }
  else if k = 11 then (optI a).map fun x => { r with grd := x }
  else if k = 12 then (optE a).map fun x => { r with gap := x }
  else none
def zR : Rou := ⟨[], 0, 0, 0, 0, [], [], [], [], [], [], [], [], []⟩
def headT (t : Tab) (a : List (List UInt8)) : Option Tab := if a.length = 2 then (optI a).map fun n => { t with nsec := n.getD 0 0, nsig := n.getD 1 0 } else none
def pointT (t : Tab) (a : List (List UInt8)) : Option Tab := if a.length = 2 then (optI a).map fun n => { t with pts := t.pts ++ [n.getD 0 0], homes := t.homes ++ [n.getD 1 0] } else none
def routeT (t : Tab) (a : List (List UInt8)) : Option Tab := if a.length = 5 then (optI a.tail).map fun n => { t with rts := t.rts ++ [{ zR with name := a.headD [], ent := n.getD 0 0, ext := n.getD 1 0, app := n.getD 2 0, len := n.getD 3 0 }] } else none
def listT (t : Tab) (k : Int) (a : List (List UInt8)) : Option Tab := if a = [] then none else (listR (t.rts.getLastD zR) k a).map fun r => { t with rts := t.rts.dropLast ++ [r] }
def follB (p k : Int) : Bool := if k = 0 then false else if k = 1 then decide (p = 0) else if k = 2 then decide (p = 1) || decide (p = 2) else if k = 3 then decide (1 ≤ p) else decide (3 ≤ p) && decide (p < k)
def takeT (t : Tab) (k : Int) (a : List (List UInt8)) : Option Tab := if k = 1 then headT t a else if k = 2 then pointT t a else if k = 3 then routeT t a else listT t k a
def stepT (t : Tab) (p : Int) (ln : List (List UInt8)) : Option Tab := if follB p (rankF (ln.headD [])) = true then takeT t (rankF (ln.headD [])) ln.tail else none
def readT : Tab → Int → Nat → Lns → Tab × Nat × Int
  | t, _, _, [] => (t, 0, 0)
  | t, p, n, ln :: r => match stepT t p ln with
    | some t' => readT t' (rankF (ln.headD [])) (n + 1) r
    | none => (zT, n + 1, 4)
def endT (r : Tab × Nat × Int) : Tab × Nat × Int := if r.2.2 = 0 then (if chkT r.1 = 0 then (r.1, 0, 0) else (zT, 0, chkT r.1)) else r
def parT (s : List UInt8) : Tab × Nat × Int :=
  if (linesF s).2.2 = 0 then (if (linesF s).1 = [] then (zT, 1, 4) else endT (readT zT 0 0 (linesF s).1)) else (zT, (linesF s).2.1, (linesF s).2.2)
end Go.Proofs.YtlblfblkallnhaaGreatDoor
