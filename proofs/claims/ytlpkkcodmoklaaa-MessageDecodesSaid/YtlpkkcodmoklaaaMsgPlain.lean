/- Messages as plain data: which are valid, how they are encoded, which text has which message. -/
import Derived.Test.YtlpkkcodmoklaaaWirePlainC
import Derived.Test.YtlpkkcodmoklaaaCrcPlain
namespace Go.Proofs.Ytlpkkcodmoklaaa
abbrev Seg := Int × Int × Int × Int
abbrev Lnk := Int × Int
structure Msg where
  kind : Int
  fro : Int
  to : Int
  seq : Int
  time : Int
  aseq : Int
  aend : Int
  prof : List Seg
  links : List Lnk
  min : Int
  speed : Int
  mode : Int
  acc : Int
  whole : Bool
  deriving DecidableEq
def Msg.zero : Msg := ⟨0, 0, 0, 0, 0, 0, 0, [], [], 0, 0, 0, 0, false⟩
def inB (n lo hi : Int) : Bool := decide (lo ≤ n) && decide (n ≤ hi)
theorem inB_iff {n lo hi : Int} : inB n lo hi = true ↔ lo ≤ n ∧ n ≤ hi := by simp [inB]
def segB (s : Seg) : Bool := inB s.1 (-1073741824) 1073741824 && inB s.2.1 (-1073741824) 1073741824 && decide (s.1 < s.2.1) && inB s.2.2.1 (-50) 50 && inB s.2.2.2 1 10000
/-- A segment is right and begins where the one before ends. -/
def stepB (l : List Seg) (i : Nat) : Bool := segB (l.getD i (0, 0, 0, 0)) && (i == 0 || (l.getD (i - 1) (0, 0, 0, 0)).2.1 == (l.getD i (0, 0, 0, 0)).1)
def upB (l : List Seg) (k : Nat) : Bool := (List.range k).all (stepB l)
theorem upB_succ (l : List Seg) (k : Nat) : upB l (k + 1) = (upB l k && stepB l k) := by simp [upB, List.range_succ]
theorem upB_more (l : List Seg) (n k : Nat) (hk : k < n) (h : stepB l k = false) : upB l n = false := by
  unfold upB
  rw [List.all_eq_false]
  exact ⟨k, by simp [hk], by simp [h]⟩
def segsB (l : List Seg) : Bool := upB l l.length
def profB (l : List Seg) : Bool := decide (l.length ≤ 128) && segsB l
def lnkB (x : Lnk) : Bool := inB x.1 1 1073741824 && inB x.2 (-1073741824) 1073741824
def linksB (l : List Lnk) : Bool := l.all lnkB
theorem linksB_take {l : List Lnk} {k : Nat} (h : k < l.length) : (l.take (k + 1)).all lnkB = ((l.take k).all lnkB && lnkB l[k]) := by
  rw [List.take_succ_eq_append_getElem h, List.all_append]
  simp
theorem linksB_false {l : List Lnk} {k : Nat} (h : k < l.length) (hf : lnkB l[k] = false) : linksB l = false := by
  unfold linksB
  rw [List.all_eq_false]
  exact ⟨l[k], List.getElem_mem h, by simp [hf]⟩
def carB (k : Int) : Bool := k == 2 || k == 3
def grantB (m : Msg) : Bool := inB m.aseq 1 1073741824 && inB m.aend (-1073741824) 1073741824 && profB m.prof && decide (m.links.length ≤ 24) && linksB m.links
def authB (m : Msg) : Bool := if carB m.kind then grantB m else m.aseq == 0 && m.aend == 0 && m.prof.isEmpty && m.links.isEmpty
def repB (m : Msg) : Bool := if m.kind == 1 then inB m.min (-1073741824) 1073741824 && inB m.speed 0 1073741824 && inB m.mode 1 7 && inB m.acc 0 1073741824 else m.min == 0 && m.speed == 0 && m.mode == 0 && m.acc == 0 && !m.whole
def headB (m : Msg) : Bool := inB m.kind 1 5 && inB m.fro 0 99 && inB m.to 0 99 && inB m.seq 0 1073741824 && inB m.time 0 1073741824
def validB (m : Msg) : Bool := headB m && authB m && repB m
def encs : List Int → List UInt8 := Wire.encIs
def segE (s : Seg) : List UInt8 := Wire.encIs [s.1, s.2.1, s.2.2.1, s.2.2.2]
def lnkE (x : Lnk) : List UInt8 := Wire.encIs [x.1, x.2]
def segsE (l : List Seg) : List UInt8 := l.flatMap segE
def lnksE (l : List Lnk) : List UInt8 := l.flatMap lnkE
def headE (m : Msg) : List UInt8 := Wire.encIs [m.kind, m.fro, m.to, m.seq, m.time]
def authE (m : Msg) : List UInt8 := Wire.encIs [m.aseq, m.aend] ++ Wire.enc m.prof.length ++ segsE m.prof ++ Wire.enc m.links.length ++ lnksE m.links
def repE (m : Msg) : List UInt8 := Wire.encIs [m.min, m.speed, m.mode, m.acc] ++ Wire.encB m.whole
def cont (m : Msg) : List UInt8 := headE m ++ (if carB m.kind then authE m else []) ++ (if m.kind == 1 then repE m else [])
def encM (m : Msg) : List UInt8 := if validB m then Crc.sealed (cont m) else []
end Go.Proofs.Ytlpkkcodmoklaaa
