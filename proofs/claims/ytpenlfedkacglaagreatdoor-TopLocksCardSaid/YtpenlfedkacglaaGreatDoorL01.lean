import Derived.Below
import Derived.BigQuiet
import Derived.ChangeArms
import Derived.ChangeSlices
import Derived.DataReads
import Derived.Deep.AppendLies
import Derived.Deep.Draws
import Derived.Deep.QuietTactic
import Derived.Handy
import Derived.IntWalk
import Derived.Laws.BitsAllLaws
import Derived.Laws.BytesArg
import Derived.Laws.RangeAny
import Derived.Laws.StructEq
import Derived.Lib.AppendIntMem
import Derived.Lib.AppendStr
import Derived.Lib.AtoiAll
import Derived.Lib.Builder
import Derived.Lib.Hide
import Derived.Lib.ItoaLen
import Derived.Lib.Join
import Derived.Lib.LaidTab
import Derived.Lib.OthersKept
import Derived.Lib.SmallJoins
import Derived.Lib.SplitLaws
import Derived.OpenShut
import Derived.Outline
import Derived.ProofKit
import Derived.SizedLaws
import Derived.Test.YtpenlfedkacglaaGreatDoorRows
import Derived.WalkKit
import Derived.WalkLawsBesides
set_option maxRecDepth 100000
set_option maxHeartbeats 40000000
set_option linter.all false
namespace Go.Proofs.YtpenlfedkacglaaGreatDoor
open Go.RowKit
theorem gqA {α:Type _} {l:List α} {i:Nat}:l.toArray[i]?=l[i]?:=List.getElem?_toArray
theorem gqZ {α:Type _} {a:α} {l:List α}:(a::l)[0]?=some a:=List.getElem?_cons_zero
theorem gqS {α:Type _} {a:α} {i:Nat} {l:List α}:(a::l)[i+1]?=l[i]?:=List.getElem?_cons_succ
theorem gqE {α:Type _} {l:List α} {i:Nat} (h:i<l.length):l[i]?=some l[i]:=List.getElem?_eq_getElem h
theorem tqS {α:Type _} {i:Nat} {l:List α} (h:i<l.length):l.take (i+1)=l.take i++[l[i]]:=List.take_succ_eq_append_getElem h
theorem hE {p:Prop} (h:p):Hid p:=Lib.hid h
theorem bQ {n:Nat} {w:World}:Below n w w:=Below.refl _ _
theorem nL {n:Nat}:n≤n:=Nat.le_refl _
theorem nZ {n:Nat}:0≤n:=Nat.zero_le _
theorem sJ {α:Type _} {a b:α} (h:some a=some b):a=b:=Option.some.inj h
theorem nT {a b c:Nat} (h:a < b) (k:b≤c):a < c:=Nat.lt_of_lt_of_le h k
theorem nR {a b c:Nat} (h:a≤b) (k:b≤c):a≤c:=Nat.le_trans h k
theorem qL {α:Type _} {a b:List α}:(a++b).length=a.length+b.length:=List.length_append
theorem qE {α:Type _} (a b:α):(some a=some b)=(a=b):=Option.some.injEq a b
theorem uE {α:Type _} {l:List α} {n:Nat} (h:n < l.length):l[n]∈l:=List.getElem_mem h
theorem uT (a b:Bool):((a&&b)=true)=(a=true∧b=true):=Bool.and_eq_true a b
theorem blz {n:Nat} {w w':World} (h:Below n w w':=by (repeat' (first | (with_reducible exact bQ) | (with_reducible assumption) | (with_reducible refine Below.drewN ?_ _) | (with_reducible refine Below.drew ?_) | (with_reducible refine Below.alloc ?_ ?_ _) | (with_reducible refine Below.setCell ?_ ?_ _) | (with_reducible exact nL) | (with_reducible exact Below.size (by assumption)) | omega | (simp only[World.size_alloc,World.size_setCell,World.size_drew];omega) | (simp;done) | (simp;omega)))):Below n w w':=h
theorem aIq {a b:Prop} (x:a) (y:b):a∧b:=⟨x,y⟩
theorem tlL {α:Type _} {i:Nat} {l:List α} (h:l.length≤i):l.take i=l:=List.take_of_length_le h
theorem agE {α:Type _} {l:Array α} {i:Nat} (h:i < l.size):l[i]?=some l[i]:=Array.getElem?_eq_getElem h
theorem laT {α:Type _} {p:α→Bool} {l:List α}:l.all p=true↔∀ x∈l,p x=true:=List.all_eq_true
theorem dET {p:Prop} [Decidable p]:(decide p=true)=p:=decide_eq_true_eq
theorem dFf {p:Prop} [Decidable p] (h:¬p):decide p=false:=decide_eq_false h
theorem dTt {p:Prop} [Decidable p] (h:p):decide p=true:=decide_eq_true h
theorem oDt {p:Prop} [Decidable p] (h:decide p=true):p:=of_decide_eq_true h
theorem gSi {α:Type _} {l:List α} {i:Nat} {a:α}:l[i]?=some a↔∃ h:i < l.length,l[i]=a:=List.getElem?_eq_some_iff
theorem mCm {α:Type _} (y:α) {a:α} {l:List α} (h:a∈l):a∈y::l:=List.mem_cons_of_mem y h
theorem lTk {α:Type _} {i:Nat} {l:List α}:(l.take i).length=min i l.length:=List.length_take
theorem lCn {α:Type _} {a:α} {l:List α}:(a::l).length=l.length+1:=List.length_cons
theorem mAp {α:Type _} {a:α} {s t:List α}:a∈s++t↔a∈s∨a∈t:=List.mem_append
theorem mRg {m n:Nat}:m∈List.range n↔m < n:=List.mem_range
theorem mCs {α:Type _} {a:α} {l:List α}:a∈a::l:=List.mem_cons_self
end Go.Proofs.YtpenlfedkacglaaGreatDoor
namespace Go.Proofs.YtpenlfedkacglaaGreatDoor
open Go
abbrev Lns:=List (List (List UInt8))
open Go
def isD (c:UInt8):Bool:=decide (48≤c.toNat) && decide (c.toNat≤57)
theorem j1x {c:UInt8}:isD c=true↔48≤c.toNat∧c.toNat≤57:=by simp[isD]
def j5o (l:List UInt8):Bool:=l.all isD && (!l.isEmpty && (decide (l.head?≠some 48) || decide (l.length=1)))
def y9u (a:Nat) (l:List UInt8):Nat:=l.foldl (fun x c=>x*10+(c.toNat - 48)) a
theorem y9v (a:Nat):y9u a []=a:=by unfold y9u;rw[List.foldl_nil]
theorem y6i (a:Nat) (c:UInt8) (r:List UInt8):y9u a (c::r)=y9u (a*10+(c.toNat - 48)) r:=by unfold y9u;rw[List.foldl_cons]
theorem val_one (c:UInt8):y9u 0 [c]=c.toNat - 48:=by rw[y6i,y9v];omega
def val (l:List UInt8):Nat:=y9u 0 l
theorem y84 (l m:List UInt8) (a:Nat):y9u a (l++m)=y9u (y9u a l) m:=by
 unfold y9u;rw[List.foldl_append]
theorem x5x (l:List UInt8) (a:Nat) (c:UInt8):y9u a (l++[c])=y9u a l*10+(c.toNat - 48):=by
 rw[y84,y6i,y9v]
theorem x9w (l:List UInt8) (c:UInt8):val (l++[c])=val l*10+(c.toNat - 48):=x5x l 0 c
theorem u8n (n:Nat) (h:n < 256):(UInt8.ofNat n).toNat=n:=by simp;omega
theorem z8b (u:Nat):val (Lib.decDigits u)=u∧(Lib.decDigits u).all isD=true∧Lib.decDigits u≠[]∧(u≠0→(Lib.decDigits u).head?≠some 48):=by
 induction u using Nat.strongRecOn with
 | ind u ih=>
  rw[Lib.decDigits];by_cases h:u < 10
  ·rw[dif_pos h];have e:=u8n (48+u) (by omega);refine ⟨?_,?_,by simp,fun hz=>?_⟩
   ·show y9u 0 _=u;rw[val_one,e];omega
   ·simp[isD,e];omega
   ·simp only[List.head?_cons,ne_eq,qE];intro hh;have:=congrArg UInt8.toNat hh;rw[e] at this;have e48:(48:UInt8).toNat=48:=rfl;rw[e48] at this;omega
  ·rw[dif_neg h];obtain ⟨h1,h2,h3,h4⟩:=ih (u / 10) (by omega);have e:=u8n (48+u % 10) (by omega);refine ⟨?_,?_,by simp,fun hz=>?_⟩
   ·rw[x9w,h1,e];omega
   ·rw[List.all_append,h2];simp[isD,e];omega
   ·have:=h4 (by omega)
    cases hd:Lib.decDigits (u / 10) with
    | nil=>exact absurd hd h3
    | cons a t=>rw[hd] at this;simpa using this
theorem y04 (u:Nat):j5o (Lib.decDigits u)=true:=by
 obtain ⟨_,h2,h3,h4⟩:=z8b u;unfold j5o;rw[h2];by_cases hz:u=0
 ·subst hz;rw[Lib.decDigits_one (by omega)];rfl
 ·have:=h4 hz;have h5:(Lib.decDigits u).isEmpty=false:=by simpa using h3
  simp[h5,this]
def j8p (s:List UInt8):Int × Int:=
 let neg:=s.head? = some 45;let d:=if neg then s.drop 1 else s
 if j5o d=false∨(neg∧d=[48]) then (0,4)
 else if neg then (if val d≤9223372036854775808 then (-(val d:Int),0) else (0,17))
 else if val d < 9223372036854775808 then ((val d:Int),0) else (0,17)
theorem x2z {d:List UInt8} (h:j5o d=true):d.head?≠some 45∧d≠[]∧d.all isD=true:=by
 unfold j5o at h;simp only[uT] at h;obtain ⟨h1,h2,_⟩:=h
 cases d with
 | nil=>simp at h2
 | cons a t=>
  refine ⟨?_,by simp,h1⟩;simp only[List.all_cons,uT] at h1;have:=j1x.1 h1.1;simp only[List.head?_cons,ne_eq,qE];rintro rfl;exact absurd this.1 (by decide)
theorem y8r (n:Int) (h0:-9223372036854775808≤n) (h1:n≤9223372036854775807):j8p (Lib.itoa n)=(n,0):=by
 unfold Lib.itoa;split
 ·rename_i hn;have hv:=z8b n.natAbs;have hd:=y04 n.natAbs;have hne:Lib.decDigits n.natAbs≠[48]:=by
   intro e;rw[e] at hv;exact hv.2.2.2 (by omega) rfl
  unfold j8p;simp only[List.head?_cons,if_true,List.drop_succ_cons,List.drop_zero,hd,hne,and_false,or_false,hv.1];rw[if_neg (by decide),if_pos (by omega)];have:-((n.natAbs:Nat):Int)=n:=by omega
  rw[this]
 ·have hv:=z8b n.toNat
  have hd:=y04 n.toNat
  have hh:=(x2z hd).1;unfold j8p;simp only[hh,if_false,hd,false_and,or_false,hv.1];rw[if_neg (by decide),if_pos (by omega)];have:((n.toNat:Nat):Int)=n:=by omega
  rw[this]
def nmB (c:UInt8):Bool:=(decide (97≤c.toNat) && decide (c.toNat≤122)) || ((decide (48≤c.toNat) && decide (c.toNat≤57)) || decide (c.toNat=95))
def loB (c:UInt8):Bool:=decide (97≤c.toNat) && decide (c.toNat≤122)
def nameB (s:List UInt8):Bool:=(decide (1≤s.length) && decide (s.length≤12)) && ((s.head?.map loB).getD false && s.all nmB)
end Go.Proofs.YtpenlfedkacglaaGreatDoor
namespace Go.Proofs.YtpenlfedkacglaaGreatDoor
open Go.RowKit
def bs (l:List UInt8):ByteArray:=⟨l.toArray⟩
theorem j8j (s:ByteArray):∃ l,s=bs l:=⟨s.data.toList,rfl⟩
theorem j0v (l:List UInt8):(bs l).data.toList=l:=rfl
theorem z05 (l:List UInt8):(bs l).size=l.length:=by simp[bs,ByteArray.size]
theorem z02 (l:List UInt8):(bs l).toList=l:=by unfold bs;exact ByteArray.toList_mk l
theorem z01 (a b:List UInt8):bs a++bs b=bs (a++b):=ByteArray.mk_append_mk a b
theorem z07 (l:List UInt8) (k:Nat) (h:k < (bs l).size):(bs l)[k]=l[k]'(by simpa [z05] using h):=rfl
theorem take_snoc (l:List UInt8) (k:Nat) (h:k < l.length):l.take (k+1)=l.take k++[l[k]]:=tqS h
theorem x9s {α:Type} (l:List α) (k:Nat) (h:¬k < l.length):l.take k=l:=tlL (by omega)
theorem Below.drewN {B:Nat} {w w':World} (h:Below B w w') (n:Nat):Below B w (w'.drewN n):=⟨h.os,h.tape,h.output,h.size,h.block⟩
open Go.RowKit
open Go.RowKit
section
variable {w:World} {base:Nat} {e:TypeId} {v:Value} {l:List UInt8}
end
section
variable {P:Program} (w:World)
end
open Go.RowKit
open Go.RowKit
def Blk (w:World) (g:Nat) (t:TypeId) (cs:Array Value):Prop:=w.heap[g]? = some (.cells cs t (0,0))
section
variable {w w':World} {g:Nat} {t:TypeId} {cs:Array Value}
theorem Blk.lt (h:Blk w g t cs):g < w.heap.size:=(Array.getElem?_eq_some_iff.1 h).1
theorem Blk.cell (h:Blk w g t cs) (i:Nat):w.cell? ⟨g,i,none⟩=cs[i]?:=Lib.cell_of_heap h i
theorem Blk.free (h:Blk w g t cs) (i:Nat):w.frozen? ⟨g,i,none⟩=false:=Lib.frozen_of_heap h i
theorem Blk.new (w:World) (t:TypeId) (cs:Array Value) (g:Nat) (hg:g=w.heap.size):Blk (w.alloc (.cells cs t)) g t cs:=by subst hg;exact heap_alloc_new w _
theorem Blk.drew (h:Blk w g t cs):Blk w.drew g t cs:=h
theorem Blk.drewN (h:Blk w g t cs) (n:Nat):Blk (w.drewN n) g t cs:=h
theorem Blk.alloc (h:Blk w g t cs) (o:Obj):Blk (w.alloc o) g t cs:=(Below.heap_alloc w o g h.lt).trans h
theorem Blk.far (h:Blk w g t cs) {p:Addr} (hp:g≠p.block) (u:Value):Blk (w.setCell p u) g t cs:=(Below.heap_setCell w p u g hp).trans h
theorem Blk.set (h:Blk w g t cs) (i:Nat) (u:Value):Blk (w.setCell ⟨g,i,none⟩ u) g t (cs.setIfInBounds i u):=by
 unfold Blk at h ⊢;simp[World.setCell,Array.getElem?_modify,h]
theorem Blk.below {B:Nat} (h:Blk w g t cs) (hb:Below B w w') (hg:g < B):Blk w' g t cs:=(hb.block g hg).trans h
theorem Blk.now (h:Blk w g t cs) (hb:Below w.heap.size w w'):Blk w' g t cs:=h.below hb h.lt
end
theorem z00 {w w1 w2:World} {B:Nat} (h:Below B w w1) (hB:B≤w1.heap.size) (h2:Below w1.heap.size w1 w2):Below B w w2:=h.trans (h2.mono hB)
end Go.Proofs.YtpenlfedkacglaaGreatDoor
namespace Go.Proofs.YtpenlfedkacglaaGreatDoor
open Go.RowKit
structure Stp where
 el:Int
 inn:Int
 out:Int
deriving DecidableEq
structure Stg where
 el:Int
 pos:Int
deriving DecidableEq
structure z0o where
 el:Int
 sd:Int
deriving DecidableEq
structure Rou where
 name:List UInt8
 ent:Int
 ext:Int
 app:Int
 len:Int
 path:List Stp
 pts:List Stg
 secs:List Int
 over:List Stp
 opts:List Stg
 osecs:List Int
 flk:List Stg
 grd:List Int
 gap:List z0o
deriving DecidableEq
structure Tab where
 rts:List Rou
 pts:List Int
 homes:List Int
 nsec:Int
 nsig:Int
deriving DecidableEq
def zT:Tab:=⟨[],[],[],0,0⟩
def inB (n lo hi:Int):Bool:=decide (lo≤n) && decide (n≤hi)
theorem z1f {n lo hi:Int}:inB n lo hi=true↔lo≤n∧n≤hi:=by simp[inB]
def y5i (t:Tab):Bool:=decide (t.rts.length≤48) && (decide (t.pts.length≤32) && (inB t.nsec 0 24 && inB t.nsig 0 20))
def ptB (t:Tab) (i:Nat):Bool:=decide (0≤t.pts.getD i 0) && ((decide (i=0) || decide (t.pts.getD (i - 1) 0 < t.pts.getD i 0)) && inB (t.homes.getD i 0) 0 (t.nsec - 1))
def y4d (t:Tab):Bool:=decide (t.homes.length=t.pts.length) && (List.range t.pts.length).all (ptB t)
def x5m (t:Tab) (l:List Int):Bool:=(l.all fun s=>inB s 0 (t.nsec - 1)) && decide l.Nodup
def z7r (t:Tab) (r:Rou):Bool:=inB r.ent 0 (t.nsig - 1) && (inB r.ext (-1) (t.nsig - 1) && ((decide (1≤r.path.length) && decide (r.path.length≤12)) && ((decide (r.secs≠[]) && x5m t (r.secs++r.osecs)) && (inB r.app 0 (t.nsec - 1) && decide (1≤r.len)))))
def zG:Stg:=⟨0,0⟩
def stB (t:Tab) (l:List Stg) (i:Nat):Bool:=decide ((l.getD i zG).el∈t.pts) && ((decide ((l.getD i zG).pos=1) || decide ((l.getD i zG).pos=2)) && (decide (i=0) || decide ((l.getD (i - 1) zG).el < (l.getD i zG).el)))
def y0z (t:Tab) (l:List Stg):Bool:=(List.range l.length).all (stB t l)
def setB (t:Tab) (r:Rou):Bool:=y0z t r.pts && (y0z t r.opts && y0z t r.flk)
def y1f (a b:List Stg):Bool:=a.all fun x=>b.all fun y=>!(decide (x.el=y.el) && decide (x.pos≠y.pos))
def agB (r:Rou):Bool:=y1f r.pts r.opts && (y1f r.pts r.flk && y1f r.opts r.flk)
def z4y (t:Tab):Int:=if y5i t=false then 2 else if y4d t=false then 1 else if t.rts.all (z7r t)=false then 1 else if t.rts.all (setB t)=false then 1 else if t.rts.all agB=false then 10 else if decide (t.rts.map Rou.name).Nodup=false then 8 else 0
theorem j0y {t:Tab} (h:z4y t=0):y5i t=true∧y4d t=true∧t.rts.all (z7r t)=true∧t.rts.all (setB t)=true∧t.rts.all agB=true∧(t.rts.map Rou.name).Nodup:=by
 unfold z4y at h;repeat' (split at h)
 all_goals first
  | (exfalso;omega)
  | simp_all
def zR:Rou:=⟨[],0,0,0,0,[],[],[],[],[],[],[],[],[]⟩
open Go.RowKit
section
variable {α:Type} {k:Nat} {mk:List Int→α} {nn:α→List Int}
end
theorem z9c {t:Tab} (h:y5i t=false):z4y t=2:=by unfold z4y;rw[if_pos h]
theorem x6v {t:Tab} (h1:y5i t=true) (h:y4d t=false):z4y t=1:=by unfold z4y;rw[if_neg (by simp[h1]),if_pos h]
theorem x6w {t:Tab} (h1:y5i t=true) (h2:y4d t=true) (h:t.rts.all (z7r t)=false):z4y t=1:=by unfold z4y;rw[if_neg (by simp[h1]),if_neg (by simp[h2]),if_pos h]
theorem y3h {t:Tab} (h1:y5i t=true) (h2:y4d t=true) (h:t.rts.all (setB t)=false):z4y t=1:=by
 unfold z4y;rw[if_neg (by simp[h1]),if_neg (by simp[h2])];by_cases h3:t.rts.all (z7r t)=false
 ·rw[if_pos h3]
 ·rw[if_neg h3,if_pos h]
theorem y3g {t:Tab} (h1:y5i t=true) (h2:y4d t=true) (h3:t.rts.all (z7r t)=true) (h4:t.rts.all (setB t)=true) (h:t.rts.all agB=false):z4y t=10:=by
 unfold z4y;rw[if_neg (by simp[h1]),if_neg (by simp[h2]),if_neg (by rw[h3];simp),if_neg (by rw[h4];simp),if_pos h]
theorem x6u {t:Tab} (h1:y5i t=true) (h2:y4d t=true) (h3:t.rts.all (z7r t)=true) (h4:t.rts.all (setB t)=true) (h5:t.rts.all agB=true) (h:¬(t.rts.map Rou.name).Nodup):z4y t=8:=by
 unfold z4y;rw[if_neg (by simp[h1]),if_neg (by simp[h2]),if_neg (by rw[h3];simp),if_neg (by rw[h4];simp),if_neg (by rw[h5];simp),if_pos (dFf h)]
theorem y8f {t:Tab} (h1:y5i t=true) (h2:y4d t=true) (h3:t.rts.all (z7r t)=true) (h4:t.rts.all (setB t)=true) (h5:t.rts.all agB=true) (h:(t.rts.map Rou.name).Nodup):z4y t=0:=by
 unfold z4y;rw[if_neg (by simp[h1]),if_neg (by simp[h2]),if_neg (by rw[h3];simp),if_neg (by rw[h4];simp),if_neg (by rw[h5];simp),if_neg (by simp[h])]
open Go.RowKit
end Go.Proofs.YtpenlfedkacglaaGreatDoor
namespace Go.Proofs.YtpenlfedkacglaaGreatDoor
open Go.Joins Go.ChangeShapes Go.WideShapes Go.RowKit
def Lt (w:World):Nat→Prop:=fun b=>b < w.heap.size
structure Cod (α:Type) where
 size:Nat
 rd:World→(Nat→Prop)→List Value→α→Prop
 fit:α→Prop
 len:∀ {w:World} {S:Nat→Prop} {cs a},rd w S cs a→cs.length=size
 keep:∀ {w w':World} {S:Nat→Prop} {cs a},rd w S cs a→(∀ p:Addr,S p.block→w'.cell? p=w.cell? p)→rd w' S cs a
 more:∀ {w:World} {S S':Nat→Prop} {cs a},rd w S cs a→(∀ b,S b→S' b)→rd w S' cs a
def z0p (n:Int):Prop:=-9223372036854775808≤n∧n≤9223372036854775807
def cI:Cod Int where
 size:=1
 rd:=fun _ _ cs n=>cs=[.int .i64 n]∧z0p n
 fit:=fun _=>True
 len:=fun h=>by rw[h.1];rfl
 keep:=fun h _=>h
 more:=fun h _=>h
def cB:Cod Bool where
 size:=1
 rd:=fun _ _ cs b=>cs=[.bool b]
 fit:=fun _=>True
 len:=fun h=>by rw[h];rfl
 keep:=fun h _=>h
 more:=fun h _=>h
def cS:Cod (List UInt8) where
 size:=1
 rd:=fun _ _ cs l=>cs=[.string (bs l)]∧l.length≤maxLen
 fit:=fun l=>l.length≤140737488351232
 len:=fun h=>by rw[h.1];rfl
 keep:=fun h _=>h
 more:=fun h _=>h
def RdS {α:Type} (c:Cod α) (w:World) (S:Nat→Prop) (A:Option Addr) (l:List α):Prop:=
 0 < l.length→∃ b off,A=some ⟨b,off,none⟩∧S b∧∀ (i:Nat) (x:α),l[i]? = some x→∃ ys,c.rd w S ys x∧∀ (j:Nat) (u:Value),ys[j]? = some u→w.cell? ⟨b,off+i*c.size+j,none⟩=some u
theorem RdS.keep {α:Type} {c:Cod α} {w w':World} {S:Nat→Prop} {A:Option Addr} {l:List α} (h:RdS c w S A l) (hk:∀ p:Addr,S p.block→w'.cell? p=w.cell? p):RdS c w' S A l:=by
 intro hl;obtain ⟨b,off,h1,h2,h3⟩:=h hl;refine ⟨b,off,h1,h2,fun i x hx=>?_⟩;obtain ⟨ys,h4,h5⟩:=h3 i x hx;exact ⟨ys,c.keep h4 hk,fun j u hu=>(hk _ h2).trans (h5 j u hu)⟩
theorem RdS.more {α:Type} {c:Cod α} {w:World} {S S':Nat→Prop} {A:Option Addr} {l:List α} (h:RdS c w S A l) (hS:∀ b,S b→S' b):RdS c w S' A l:=by
 intro hl;obtain ⟨b,off,h1,h2,h3⟩:=h hl;refine ⟨b,off,h1,hS _ h2,fun i x hx=>?_⟩;obtain ⟨ys,h4,h5⟩:=h3 i x hx;exact ⟨ys,c.more h4 hS,h5⟩
theorem RdS.now {α:Type} {c:Cod α} {w w':World} {A:Option Addr} {l:List α} (h:RdS c w (Lt w) A l) (hb:Below w.heap.size w w'):RdS c w' (Lt w') A l:=(h.keep fun _ hp=>hb.cell hp).more fun _ h=>nT h hb.size
theorem RdS.nil {α:Type} (c:Cod α) (w:World) (S:Nat→Prop) (A:Option Addr):RdS c w S A []:=fun h=>absurd h (by simp)
theorem RdS.pick {α:Type} {c:Cod α} {w:World} {S:Nat→Prop} {A:Option Addr} {l:List α} (h:RdS c w S A l) (hc:c.size=1):∃ b off,(0 < l.length→A=some ⟨b,off,none⟩∧S b)∧∀ (i:Nat) (x:α),l[i]? = some x→∃ u,c.rd w S [u] x∧w.cell? ⟨b,off+i,none⟩=some u:=by
 by_cases hl:0 < l.length
 ·obtain ⟨b,off,h1,h2,h3⟩:=h hl;refine ⟨b,off,fun _=>⟨h1,h2⟩,fun i x hx=>?_⟩;obtain ⟨ys,h4,h5⟩:=h3 i x hx;have hn:=c.len h4;rw[hc] at hn
  match ys,hn with
  | [u],_=>
   refine ⟨u,h4,?_⟩;have:=h5 0 u rfl;rw[hc,Nat.mul_one] at this;exact this
 ·refine ⟨0,0,fun h=>absurd h hl,fun i x hx=>?_⟩;have:=(List.getElem?_eq_some_iff.1 hx).1;omega
def cL {α:Type} (c:Cod α):Cod (List α) where
 size:=1
 rd:=fun w S cs l=>∃ A cap,cs=[.slice A l.length cap]∧(l.length≤maxLen∧l.length≤cap)∧RdS c w S A l
 fit:=fun l=>l.length≤140737488351232∧∀ x∈l,c.fit x
 len:=fun ⟨_,_,h,_⟩=>by rw[h];rfl
 keep:=fun ⟨A,cap,h,hm,hr⟩ hk=>⟨A,cap,h,hm,hr.keep hk⟩
 more:=fun ⟨A,cap,h,hm,hr⟩ hB=>⟨A,cap,h,hm,hr.more hB⟩
def cN:Cod Unit where
 size:=0
 rd:=fun _ _ cs _=>cs=[]
 fit:=fun _=>True
 len:=fun h=>by rw[h];rfl
 keep:=fun h _=>h
 more:=fun h _=>h
def cP {α β:Type} (c:Cod α) (d:Cod β):Cod (α × β) where
 size:=c.size+d.size
 rd:=fun w S cs x=>∃ xs ys,cs=xs++ys∧c.rd w S xs x.1∧d.rd w S ys x.2
 fit:=fun x=>c.fit x.1∧d.fit x.2
 len:=fun ⟨_,_,h,h1,h2⟩=>by rw[h,qL,c.len h1,d.len h2]
 keep:=fun ⟨xs,ys,h,h1,h2⟩ hk=>⟨xs,ys,h,c.keep h1 hk,d.keep h2 hk⟩
 more:=fun ⟨xs,ys,h,h1,h2⟩ hB=>⟨xs,ys,h,c.more h1 hB,d.more h2 hB⟩
structure Opens {α:Type} (P:Program) (t:TypeId) (c:Cod α):Prop where
 size:P.cellsOf t=c.size
 opens:∀ {H:Type} {enc:TypeId × Value→H} {w:World} {fuel:Nat} {cs:List Value} {x:DataW H × List MemPlace},DataW.trod enc P w 0 (fun _=>true) true fuel t cs=some x→(∀ n∈x.1.weights P t,n≤reachBytes)→∃ a,c.rd w (Lt w) cs a∧c.fit a
theorem j1s {n:Int} (h:(Lit.int .i64 n).wf=true):z0p n:=bounds_i64 h
section
variable {P:Program} {t e:TypeId}
theorem z8h (ht:P.underlying t=some (.int .i64)) (hc:P.cellsOf t=1):Opens P t cI:=
 ⟨hc,fun h _=>by obtain ⟨n,rfl,_,hw⟩:=DataW.trod_int ht h;exact ⟨n,⟨rfl,j1s hw⟩,trivial⟩⟩
theorem j2u (ht:P.underlying t=some .bool) (hc:P.cellsOf t=1):Opens P t cB:=
 ⟨hc,fun h _=>by obtain ⟨b,rfl,_⟩:=DataW.trod_bool ht h;exact ⟨b,rfl,trivial⟩⟩
theorem y7t (ht:P.underlying t=some .string) (hc:P.cellsOf t=1):Opens P t cS:=
 ⟨hc,fun h hf=>by
  obtain ⟨s,rfl,rfl,hw⟩:=DataW.trod_string ht h;obtain ⟨l,rfl⟩:=j8j s;exact ⟨l,⟨rfl,by rw[z05] at hw;exact hw⟩,hf _ (by simp[DataW.weights,j0v])⟩⟩
theorem y2a {w:World} {base n:Nat} {a:Addr} {cs:List Value} (h:w.cells? base a n=some cs):cs.length=n∧∀ (j:Nat) (u:Value),cs[j]? = some u→w.cell? (a.add j)=some u:=by
 obtain ⟨_,h2,h3⟩:=World.cells?_some h;exact ⟨h2,fun j u hu=>(h3 j (by have:=(List.getElem?_eq_some_iff.1 hu).1;omega)).trans hu⟩
theorem z6q {H:Type} {P:Program} {e:TypeId} {d:DataW H} {n:Nat} (hn:n∈d.weights P e):∀ {ds:List (DataW H)},d∈ds→n∈DataW.weightsAll P e ds
 | [],h=>by cases h
 | x::r,h=>by
  rw[DataW.weightsAll,mAp];rcases List.mem_cons.1 h with rfl | h
  ·exact .inl hn
  ·exact .inr (z6q hn h)
theorem z5v {α:Type} {c:Cod α} (ht:P.underlying t=some (.slice e)) (hc:P.cellsOf t=1) (he:Opens P e c) (hpos:0 < c.size) (hby:1≤P.bytesOf e):Opens P t (cL c):=by
  refine ⟨hc,fun {H enc w fuel cs x} h hf=>?_⟩;rcases DataW.trod_slice ht h with ⟨rfl,_⟩ | ⟨a,len,cap,elems,rest,n,_,rfl,rfl,hb,hl,hm,hlen,hel,_,_⟩
  · exact ⟨[],⟨none,0,rfl,by simp,RdS.nil _ _ _ _⟩,by simp,fun x hx=>by simp at hx⟩
  · simp only[DataW.weights,ht,List.mem_cons,mAp,List.length_map] at hf;have hlf:len≤140737488351232:=by
      have h1:=hf _ (Or.inl rfl);have h2:(elems.length+rest.length)*1≤(elems.length+rest.length)*P.bytesOf e:=Nat.mul_le_mul_left _ hby;unfold reachBytes at h1;omega
    have key:∀ i,i < len→∃ ys x,w.cells? 0 (a.add (i*c.size)) c.size=some ys∧c.rd w (Lt w) ys x∧c.fit x:=by
      intro i hi;have h1:=hel i hi;rw[he.size] at h1;have h2:i < elems.length:=by omega
      rw[gqE h2,Option.bind_eq_some_iff] at h1;obtain ⟨ys,h3,h4⟩:=h1;obtain ⟨x,hx⟩:=he.opens h4 (fun n hn=>hf n (Or.inr (Or.inl (z6q hn (List.mem_map.2 ⟨elems[i],uE h2,rfl⟩)))));exact ⟨ys,x,h3,hx⟩
    have:∃ l:List α,l.length=len∧∀ i x,l[i]? = some x→∃ ys,w.cells? 0 (a.add (i*c.size)) c.size=some ys∧c.rd w (Lt w) ys x∧c.fit x:=by
      have gen:∀ m,m≤len→∃ l:List α,l.length=m∧∀ i x,l[i]? = some x→∃ ys,w.cells? 0 (a.add (i*c.size)) c.size=some ys∧c.rd w (Lt w) ys x∧c.fit x:=by
       intro m
       induction m with
       | zero=>exact fun _=>⟨[],rfl,fun i x hx=>by simp at hx⟩
       | succ m ih=>
        intro hm;obtain ⟨l,hl,hx⟩:=ih (by omega);obtain ⟨ys,x,h1,h2⟩:=key m (by omega);refine ⟨l++[x],by simp[hl],fun i y hy=>?_⟩;by_cases hi:i < l.length
        · rw[List.getElem?_append_left hi] at hy;exact hx i y hy
        · have hlt:=(List.getElem?_eq_some_iff.1 hy).1;simp at hlt;obtain rfl:i=l.length:=by omega
          simp at hy;subst hy;rw[hl];exact ⟨ys,h1,h2⟩
      exact gen len nL
    obtain ⟨l,hll,hlx⟩:=this;refine ⟨l,⟨some a,cap,by rw[hll],⟨by omega,by omega⟩,fun hp=>?_⟩,by omega,fun x hx=>by
      obtain ⟨i,hi⟩:=List.getElem?_of_mem hx;obtain ⟨_,_,_,h⟩:=hlx i x hi;exact h⟩
    obtain ⟨ys,h1,h2,_⟩:=hlx 0 l[0] (gqE hp);have hys:=y2a h1;have hsz:=c.len h2;have h0:∃ u,ys[0]? = some u:=⟨ys[0],gqE (by omega)⟩
    obtain ⟨u,hu⟩:=h0;have g0:=hys.2 0 u hu;rw[Nat.zero_mul] at g0;obtain ⟨b,off,spot⟩:=a;have hspot:spot=none:=by simpa [Addr.add] using World.cell?_spot g0
    subst hspot;refine ⟨b,off,rfl,?_,fun i x hx=>?_⟩
    · show b < w.heap.size;simp only[Addr.add,if_true] at g0;unfold World.cell? at g0;by_cases hb':b < w.heap.size
      · exact hb'
      · rw[Array.getElem?_eq_none (Nat.le_of_not_lt hb')] at g0;cases g0
    · obtain ⟨zs,h3,h4,_⟩:=hlx i x hx;refine ⟨zs,h4,fun j v hv=>?_⟩;have:=(y2a h3).2 j v hv;have ea:∀ (o k:Nat),(⟨b,o,none⟩:Addr).add k=⟨b,o+k,none⟩:=by
        intro o k;unfold Addr.add;split
        · rename_i h0;subst h0;rfl
        · rfl
      rw[ea,ea] at this;exact this
structure Fields {α:Type} (P:Program) (off:Nat) (fs:List Field) (c:Cod α):Prop where
 opens:∀ {H:Type} {enc:TypeId × Value→H} {w:World} {fuel:Nat} {cs:List Value},cs.length=off+c.size→(∀ f∈fs,∃ y,DataW.trod enc P w 0 (fun _=>true) true fuel f.type ((cs.drop f.offset).take (P.cellsOf f.type))=some y∧∀ n∈y.1.weights P f.type,n≤reachBytes)→∃ a,c.rd w (Lt w) (cs.drop off) a∧c.fit a
theorem z2z {off:Nat}:Fields P off [] cN:=⟨fun hl _=>⟨(),by show _=[];apply List.drop_eq_nil_of_le;simp[cN] at hl;omega,trivial⟩⟩
theorem z08 {α β:Type} {c:Cod α} {d:Cod β} {off:Nat} {f:Field} {fs:List Field} (hf:f.offset=off) (hc:Opens P f.type c) (hd:Fields P (off+c.size) fs d):Fields P off (f::fs) (cP c d):=by
 refine ⟨fun {H enc w fuel cs} hl h=>?_⟩;obtain ⟨y,hy,hyf⟩:=h f (by simp);rw[hf,hc.size] at hy;obtain ⟨a,ha,hfa⟩:=hc.opens hy hyf;obtain ⟨b,hb,hfb⟩:=hd.opens (cs:=cs) (by simp only[cP] at hl;omega) (fun g hg=>h g (by simp[hg]));refine ⟨(a,b),⟨_,_,?_,ha,hb⟩,hfa,hfb⟩;rw[←List.drop_drop];exact (List.take_append_drop _ _).symm
theorem z6y {α:Type} {c:Cod α} {fs:Array Field} (ht:P.underlying t=some (.struct fs)) (hc:P.cellsOf t=c.size) (h:Fields P 0 fs.toList c):Opens P t c:=by
 refine ⟨hc,fun {H enc w fuel cs x} hx hwt=>?_⟩;obtain ⟨xs,n,_,hxx,hlen,hxl,hg⟩:=DataW.trod_struct ht hx;subst hxx;simp only[DataW.weights,ht] at hwt;have:=h.opens (H:=H) (enc:=enc) (w:=w) (fuel:=n) (cs:=cs) (by rw[hlen,hc];omega) (fun f hf=>by
  obtain ⟨i,hi⟩:=List.getElem?_of_mem hf;have h1:=hg i f (by simpa using hi);have h2:i < fs.size:=by
   have:=(List.getElem?_eq_some_iff.1 hi).1;simpa using this
  rw[h1];exact ⟨xs[i],gqE (by omega),fun n hn=>hwt n (DataW.weights_mem_each (j:=i) (t:=f.type) (d:=xs[i].1) (by rw[List.getElem?_map,hi];rfl) (by rw[List.getElem?_map,gqE (by omega)];rfl) n hn)⟩)
 simpa using this
theorem x92 {α:Type} {c:Cod α} {H:Type} {enc:TypeId × Value→H} {w:World} {v:Value} {d:DataW H} {p:List MemPlace} (hc:Opens P t c) (h:DataW.Trod enc P w 0 (fun _=>true) true t v d p) (hf:∀ n∈d.weights P t,n≤reachBytes):∃ a,c.rd w (Lt w) v.cells.toList a∧c.fit a:=by
 obtain ⟨fuel,h⟩:=h;exact hc.opens h hf
theorem y9k {H:Type} {ts:List TypeId} {ds:List (DataW H)} (h:(DataW.weightsEach P ts ds).all (·≤reachBytes)=true) {j:Nat} {d:DataW H} (ht:ts[j]? = some t) (hd:ds[j]? = some d):∀ n∈d.weights P t,n≤reachBytes:=fun n hn=>by
 have:=List.all_eq_true.1 h _ (DataW.weights_mem_each ht hd n hn);simpa using this
theorem open_slice {α:Type} {c:Cod α} (ht:P.underlying t=some (.slice e)) {H:Type} {enc:TypeId × Value→H} {w:World} {r:Reach} {b0:Nat} {v:Value} {d:DataW H} {p:List MemPlace} (hc:Opens P t (cL c)) (hv:Value.okWide P w r b0 t v) (h:DataW.Trod enc P w 0 (fun _=>true) true t v d p) (hf:∀ n∈d.weights P t,n≤reachBytes):∃ A cap,∃ l:List α,v=.slice A l.length cap∧(l.length≤maxLen∧l.length≤cap)∧RdS c w (Lt w) A l∧(cL c).fit l:=by
 obtain ⟨l,⟨A,cap,h1,h2,h3⟩,hfit⟩:=x92 hc h hf;obtain ⟨a,len,cap',rfl⟩:=okWide_slice ht hv;have:(Value.slice a len cap').cells.toList=[Value.slice a len cap']:=rfl;rw[this] at h1;exact ⟨A,cap,l,(List.cons.inj h1).1,h2,h3,hfit⟩
theorem y7s {α:Type} {c:Cod α} {fs:Array Field} (ht:P.underlying t=some (.struct fs)) {H:Type} {enc:TypeId × Value→H} {w:World} {r:Reach} {b0:Nat} {v:Value} {d:DataW H} {p:List MemPlace} (hc:Opens P t c) (hv:Value.okWide P w r b0 t v) (h:DataW.Trod enc P w 0 (fun _=>true) true t v d p) (hf:∀ n∈d.weights P t,n≤reachBytes):∃ cs a,v=.agg (List.toArray cs)∧c.rd w (Lt w) cs a∧c.fit a:=by
 obtain ⟨cs,rfl,_⟩:=okWide_struct ht hv;obtain ⟨fuel,h⟩:=h;obtain ⟨a,ha⟩:=hc.opens h hf;exact ⟨cs.toList,a,rfl,ha⟩
end
end Go.Proofs.YtpenlfedkacglaaGreatDoor
namespace Go.Proofs.YtpenlfedkacglaaGreatDoor
open Go.RowKit
def RdC {α:Type} (c:Cod α) (w:World) (S:Nat→Prop):List Value→List α→Prop
 | xs,[]=>xs=[]
 | xs,a::l=>∃ ys zs,xs=ys++zs∧c.rd w S ys a∧RdC c w S zs l
section
variable {α:Type} {c:Cod α} {w w':World} {S S':Nat→Prop}
theorem RdC.len:∀ {l:List α} {xs:List Value},RdC c w S xs l→xs.length=l.length*c.size
 | [],xs,h=>by simp[RdC] at h;simp[h]
 | a::l,xs,⟨ys,zs,h1,h2,h3⟩=>by rw[h1,qL,c.len h2,RdC.len h3,lCn,Nat.succ_mul];omega
theorem RdC.snoc:∀ {l:List α} {xs ys:List Value} {a:α},RdC c w S xs l→c.rd w S ys a→RdC c w S (xs++ys) (l++[a])
 | [],xs,ys,a,h,h2=>by simp[RdC] at h;subst h;exact ⟨ys,[],by simp,h2,rfl⟩
 | b::l,xs,ys,a,⟨y,z,h1,h2,h3⟩,h4=>⟨y,z++ys,by rw[h1,List.append_assoc],h2,RdC.snoc h3 h4⟩
theorem RdC.keep:∀ {l:List α} {xs:List Value},RdC c w S xs l→(∀ p:Addr,S p.block→w'.cell? p=w.cell? p)→RdC c w' S xs l
 | [],_,h,_=>h
 | _::_,_,⟨y,z,h1,h2,h3⟩,hk=>⟨y,z,h1,c.keep h2 hk,RdC.keep h3 hk⟩
theorem RdC.more:∀ {l:List α} {xs:List Value},RdC c w S xs l→(∀ b,S b→S' b)→RdC c w S' xs l
 | [],_,h,_=>h
 | _::_,_,⟨y,z,h1,h2,h3⟩,hs=>⟨y,z,h1,c.more h2 hs,RdC.more h3 hs⟩
theorem RdC.get:∀ {l:List α} {xs:List Value} {i:Nat} {a:α},RdC c w S xs l→l[i]? = some a→∃ ys,c.rd w S ys a∧∀ (j:Nat) (u:Value),ys[j]? = some u→xs[i*c.size+j]? = some u
 | [],_,_,_,_,h=>by simp at h
 | x::l,xs,0,a,⟨y,z,h1,h2,_⟩,h=>by
  simp at h;subst h;refine ⟨y,h2,fun j u hu=>?_⟩;have:=(List.getElem?_eq_some_iff.1 hu).1;rw[h1,Nat.zero_mul,Nat.zero_add,List.getElem?_append_left this]
  exact hu
 | x::l,xs,i+1,a,⟨y,z,h1,h2,h3⟩,h=>by
  simp only[List.getElem?_cons_succ] at h;obtain ⟨ys,h4,h5⟩:=RdC.get h3 h;refine ⟨ys,h4,fun j u hu=>?_⟩;have hy:=c.len h2;rw[h1,List.getElem?_append_right (by rw[hy,Nat.succ_mul];omega),hy,show (i+1)*c.size+j - c.size=i*c.size+j by rw[Nat.succ_mul];omega];exact h5 j u hu
end
def Sep (w:World) (e:TypeId) (B:Nat):Nat→Prop:=fun b=>b < B∧∀ cs fr,w.heap[b]?≠some (.cells cs e fr)
def z09 {α:Type} (c:Cod α) (w:World) (base:Nat) (e:TypeId) (v:Value) (l:List α) (B:Nat):Prop:=∃ xs,w.ownsRow base e c.size v l.length xs∧RdC c w (Sep w e B) xs l∧B≤w.heap.size
structure Frm (base:Nat) (e:TypeId) (w w':World):Prop where
 os:w'.os=w.os
 tape:w'.tape=w.tape
 output:w'.output=w.output
 size:w.heap.size≤w'.heap.size
 low:∀ k,k < base→k < w.heap.size→w'.heap[k]? = w.heap[k]?
 obj:∀ (k:Nat) (o:Obj),w.heap[k]? = some o→(∀ cs fr,o≠.cells cs e fr)→w'.heap[k]? = some o
theorem z0j {w:World} {k:Nat} {o:Obj} (h:w.heap[k]? = some o):k < w.heap.size:=(Array.getElem?_eq_some_iff.1 h).1
theorem Frm.keeps {base:Nat} {e:TypeId} {w w':World} (h:Frm base e w w') {B:Nat} {w0:World} (hB:B≤base) (hBw:B≤w.heap.size) (hb:Below B w0 w):Below B w0 w':=
 hb.trans ⟨h.os,h.tape,h.output,h.size,fun k hk=>h.low k (by omega) (by omega)⟩
theorem Frm.blk {base:Nat} {e T:TypeId} {w w':World} (h:Frm base e w w') {g:Nat} {cs:Array Value} (hb:Blk w g T cs) (hT:T≠e):Blk w' g T cs:=
 h.obj g _ hb fun cs fr he=>by simp only[Obj.cells.injEq] at he;exact hT he.2.1
theorem Frm.refl (base:Nat) (e:TypeId) (w:World):Frm base e w w:=⟨rfl,rfl,rfl,nL,fun _ _ _=>rfl,fun _ _ h _=>h⟩
theorem Frm.trans {base:Nat} {e:TypeId} {u v w:World} (h:Frm base e u v) (k:Frm base e v w):Frm base e u w:=
 ⟨k.os.trans h.os,k.tape.trans h.tape,k.output.trans h.output,nR h.size k.size,fun i h1 h2=>(k.low i h1 (nT h2 h.size)).trans (h.low i h1 h2),fun i o h1 h2=>k.obj i o (h.obj i o h1 h2) h2⟩
theorem Frm.of_below {base:Nat} {e:TypeId} {w w':World} (h:Below w.heap.size w w'):Frm base e w w':=
 ⟨h.os,h.tape,h.output,h.size,fun k _ hk=>h.block k hk,fun k o ho _=>(h.block k (z0j ho)).trans ho⟩
theorem y2g {base size n:Nat} {e:TypeId} {w w':World} {v:Value} {xs:List Value} (h:w.ownsRow base e size v n xs) (hg:w.grownBy w' v.ownBlock):Frm base e w w':=by
 refine ⟨hg.os,hg.tape,hg.output,hg.size,fun k hk hw=>hg.block k hw fun he=>?_,fun k o ho hne=>(hg.block k (z0j ho) fun he=>?_).trans ho⟩
 ·have:=(World.ownsRow.lt h k he.symm).1;omega
 ·rcases h.2 with ⟨rfl,_⟩ | ⟨g,cap,cur,rfl,_,hgk,_⟩
  ·cases he
  ·have:k=g:=sJ he;subst this;rw[ho] at hgk;exact hne _ _ (sJ hgk)
section
variable {α:Type} {c:Cod α} {w w':World} {base B:Nat} {e:TypeId} {v:Value} {l:List α}
theorem z09.nil (c:Cod α) (w:World) (base:Nat) (e:TypeId) (hB:B≤w.heap.size):z09 c w base e (.slice none 0 0) ([]:List α) B:=⟨[],World.ownsRow_nil w base e c.size,rfl,hB⟩
theorem z09.form (h:z09 c w base e v l B):∃ A cap,v=.slice A l.length cap:=by
 obtain ⟨xs,h,_,_⟩:=h;rcases h.2 with ⟨rfl,h0⟩ | ⟨g,cap,cur,rfl,_⟩
 ·rw[h0];exact ⟨_,_,rfl⟩
 ·exact ⟨_,_,rfl⟩
theorem z09.short (h:z09 c w base e v l B):l.length≤maxLen:=by
 obtain ⟨xs,h,_,_⟩:=h;rcases h.2 with ⟨rfl,h0⟩ | ⟨g,cap,cur,rfl,_,_,h1,h2,_⟩
 ·rw[h0];exact nZ
 ·exact nR h1 h2
theorem Sep.same {B':Nat} (hs:∀ k,k < B→w'.heap[k]? = w.heap[k]?) (hB:B≤B'):∀ b,Sep w e B b→Sep w' e B' b:=fun b ⟨h1,h2⟩=>⟨by omega,fun cs fr he=>h2 cs fr (by rw[←hs b h1];exact he)⟩
theorem z0k {p:Addr} (h:w'.heap[p.block]? = w.heap[p.block]?):w'.cell? p=w.cell? p:=World.cell?_of_block h
theorem z09.now (h:z09 c w base e v l B) (hb:Below w.heap.size w w'):z09 c w' base e v l B:=by
 obtain ⟨xs,h1,h2,h3⟩:=h;refine ⟨xs,World.ownsRow.kept h1 (row:=none) ⟨hb.os,hb.tape,hb.output,hb.size,fun i hi _=>hb.block i hi⟩ (by cases hv:v.ownBlock <;> simp),?_,nR h3 hb.size⟩;exact (h2.keep fun p hp=>z0k (hb.block _ (by have:=hp.1;omega))).more (Sep.same (fun k hk=>hb.block k (by omega)) nL)
theorem z09.drew (h:z09 c w base e v l B):z09 c w.drew base e v l B:=h.now bQ.drew
theorem z09.alloc (h:z09 c w base e v l B) (o:Obj):z09 c (w.alloc o) base e v l B:=h.now (bQ.alloc nL o)
theorem z09.frm {base2:Nat} {e2:TypeId} (h:z09 c w base e v l B) (hf:Frm base2 e2 w w') (he:e≠e2) (hB:B≤base2):z09 c w' base e v l B:=by
 obtain ⟨xs,h1,h2,h3⟩:=h;have hs:∀ k,k < B→w'.heap[k]? = w.heap[k]?:=fun k hk=>hf.low k (by omega) (by omega)
 refine ⟨xs,⟨h1.1,?_⟩,(h2.keep fun p hp=>z0k (hs _ hp.1)).more (Sep.same hs nL),nR h3 hf.size⟩;rcases h1.2 with h | ⟨g,cap,cur,hv,hb,hg,h4,h5,h6⟩
 ·exact Or.inl h
 ·exact Or.inr ⟨g,cap,cur,hv,hb,hf.obj g _ hg fun cs fr hx=>by simp only[Obj.cells.injEq] at hx;exact he hx.2.1,h4,h5,h6⟩
theorem z09.set (h:z09 c w base e v l B) (g j:Nat) (u:Value) (T:TypeId) (cs:Array Value) (hg:Blk w g T cs) (hT:T≠e) (hB:B≤g):z09 c (w.setCell ⟨g,j,none⟩ u) base e v l B:=by
 obtain ⟨xs,h1,h2,h3⟩:=h;have hs:∀ k,k≠g→(w.setCell ⟨g,j,none⟩ u).heap[k]? = w.heap[k]?:=fun k hk=>Below.heap_setCell _ _ _ _ hk
 refine ⟨xs,⟨h1.1,?_⟩,(h2.keep fun p hp=>z0k (hs _ (by have:=hp.1;omega))).more (Sep.same (fun k hk=>hs k (by omega)) nL),by simp[World.setCell];exact h3⟩;rcases h1.2 with h | ⟨g',cap,cur,hv,hb,hg',h4,h5,h6⟩
 ·exact Or.inl h
 ·refine Or.inr ⟨g',cap,cur,hv,hb,(hs g' ?_).trans hg',h4,h5,h6⟩;rintro rfl;have:=hg'.symm.trans hg;simp only[qE,Obj.cells.injEq] at this;exact hT this.2.1.symm
theorem z09.raise {B':Nat} (h:z09 c w base e v l B) (hB:B≤B') (hw:B'≤w.heap.size):z09 c w base e v l B':=by
 obtain ⟨xs,h1,h2,h3⟩:=h;exact ⟨xs,h1,h2.more fun b hb=>⟨by have:=hb.1;omega,hb.2⟩,hw⟩
theorem z09.rds {S:Nat→Prop} (h:z09 c w base e v l B) (hS:∀ (b:Nat) (cs:Array Value),w.heap[b]? = some (.cells cs e (0,0))→base≤b→S b) (hI:∀ b,Sep w e B b→S b):∃ A cap,v=.slice A l.length cap∧(l.length≤maxLen∧l.length≤cap)∧RdS c w S A l:=by
 have hsh:=h.short;obtain ⟨xs,h1,h2,_⟩:=h;rcases h1.2 with ⟨rfl,h0⟩ | ⟨g,cap,cur,rfl,hb,hg,hcap,_,htake⟩
 ·exact ⟨none,0,by rw[h0],⟨hsh,by omega⟩,fun hl=>by omega⟩
 ·refine ⟨_,_,rfl,⟨hsh,hcap⟩,fun _=>⟨g,0,rfl,hS g _ hg hb,fun i x hx=>?_⟩⟩;obtain ⟨ys,h4,h5⟩:=h2.get hx;refine ⟨ys,c.more h4 hI,fun j u hu=>?_⟩;have h6:=h5 j u hu;rw[Nat.zero_add,cell_of_row w g _ cur e (0,0) hg];rw[←htake.2,List.getElem?_take] at h6;split at h6
  ·simpa using h6
  ·cases h6
theorem z09.y9l (h:z09 c w base e v l B):∃ A cap,v=.slice A l.length cap∧(l.length≤maxLen∧l.length≤cap)∧RdS c w (Lt w) A l:=by
 have h3:=h;obtain ⟨_,_,_,hB⟩:=h3;exact h.rds (fun b cs hb _=>z0j hb) (fun b hb=>nT hb.1 hB)
end
section
variable {P:Program} {α:Type} {c:Cod α}
theorem z0h (w:World) {ops:Array Oper} {rest:List Oper} {o:Oper} {a:Act} {Q:Exit→Act→World→Prop} (hgd:o.guard=none) (s x:Operand) (t:TypeId)
  (ho:o.op=.call { callee:=.builtin .append,args:=#[s,x],argTypes:=#[t,t] })
  (base:Nat) (e:TypeId) (i:TypeInfo) (z:Value) (bytes:Nat) (ht:P.underlying t=some (.slice e)) (hi:P.info? e=some i) (hz:i.zero=some z) (hsize:i.size=c.size) (hby:i.bytes=bytes) (hzs:z.cells.size=c.size) (hc:0 < c.size)
  (v:Value) (l:List α) (B:Nat) (hs:a.eval s=v) (hown:z09 c w base e v l B) (ys:List Value) (y:α) (hy:c.rd w (Sep w e B) ys y) (h1:∀ u∈ys,u.oneCell' = true) (tt:TypeId)
  (hx:a.eval x=.slice (some ⟨w.heap.size,0,none⟩) 1 1) (hlen:l.length≤100000) (hbl:bytes≤1000) (hbase:base≤w.heap.size)
  (h:∀ v' w',z09 c w' base e v' (l++[y]) B→Frm base e w w'→w.heap.size < w'.heap.size→wpList P ops Q rest (a.put o.dst v') w'):wpList P ops Q (o::rest) a (w.alloc (.cells ys.toArray tt)):=by
 obtain ⟨xs,hown,hrd,hB⟩:=hown;have hown':=World.ownsRow.alloc hown (.cells ys.toArray tt);have hyl:=c.len hy;refine wpList_append_own _ hgd s x t ho base e i z c.size bytes ht hi hz hsize hby hzs hc v l.length xs hs hown' ⟨w.heap.size,0,none⟩ 1 1 ys hx (by omega) ?_ h1
  (by unfold maxLen;omega) (nR (Nat.mul_le_mul (show l.length+1≤1000000 by omega) hbl) (by omega)) (by simp;omega) ?_
 ·intro j u hj;have:(⟨w.heap.size,0,none⟩:Addr).add j=⟨w.heap.size,j,none⟩:=by
   unfold Addr.add;split
   ·rename_i h0;subst h0;rfl
   ·simp
  rw[this,World.cell?_alloc_at _ _ _ _ rfl];simpa using hj
 ·intro v' w' h2 h3 _;have hf:=y2g hown' h3;have hb0:Below w.heap.size w (w.alloc (.cells ys.toArray tt)):=bQ.alloc nL _;have hfr:Frm base e w w':=(Frm.of_below hb0).trans hf;have hs:∀ b,Sep w e B b→w'.heap[b]? = w.heap[b]?:=fun b hb=>by
   have hlt:b < w.heap.size:=by have:=hb.1;omega
   have ho:w.heap[b]? = some w.heap[b]:=agE hlt;rw[hfr.obj b _ ho fun cs fr hx=>hb.2 cs fr (by rw[ho,hx]),ho]
  refine h v' w' ⟨xs++ys,by rw[qL];exact h2,?_,nR hB hfr.size⟩ hfr (nT (by simp) hf.size);have key:RdC c w (Sep w e B) (xs++ys) (l++[y]):=hrd.snoc hy;exact (key.keep fun p hp=>z0k (hs _ hp)).more fun b hb=>⟨hb.1,fun cs fr hx=>hb.2 cs fr (by rw[←hs b hb];exact hx)⟩
end
end Go.Proofs.YtpenlfedkacglaaGreatDoor
namespace Go.Proofs.YtpenlfedkacglaaGreatDoor
open Go.RowKit
theorem cell_lt {w:World} {p:Addr} {u:Value} (h:w.cell? p=some u):p.block < w.heap.size:=by
 unfold World.cell? at h;rcases Nat.lt_or_ge p.block w.heap.size with h' | h'
 ·exact h'
 ·rw[Array.getElem?_eq_none h'] at h;cases h
def y7u:List Int:=[1,0,1,0,1,1,0,0,2,0,1,1,2,0,2,2,2,1,0,1,2,2,0,2,3,0,1,0,3,1,0,0,3,2,3,0,3,3,2,0]
structure EnvR (w:World):Prop where
 tab:Lib.TabIs Tryz.prog w "internal/strconv.uint64pow10" .u64 Lib.pow10Tab
 pas:∀ (j:Nat) (x:Int),y7u[j]? = some x→w.cell? ⟨0,j,none⟩=some (.int .i64 x)
theorem EnvR.now {w w':World} (E:EnvR w) (hb:Below w.heap.size w w'):EnvR w':=
 ⟨Lib.tabBelow_of_tabIs E.tab _ hb,fun j x h=>(hb.cell (cell_lt (E.pas j x h))).trans (E.pas j x h)⟩
def z1h:Cod Stp where
 size:=3
 rd:=fun _ _ cs x=>cs=[.int .i64 x.el,.int .i64 x.inn,.int .i64 x.out]∧(z0p x.el∧z0p x.inn∧z0p x.out)
 fit:=fun _=>True
 len:=fun h=>by rw[h.1];rfl
 keep:=fun h _=>h
 more:=fun h _=>h
def z2x:Cod Stg where
 size:=2
 rd:=fun _ _ cs x=>cs=[.int .i64 x.el,.int .i64 x.pos]∧(z0p x.el∧z0p x.pos)
 fit:=fun _=>True
 len:=fun h=>by rw[h.1];rfl
 keep:=fun h _=>h
 more:=fun h _=>h
def y1z:Cod z0o where
 size:=2
 rd:=fun _ _ cs x=>cs=[.int .i64 x.el,.int .i64 x.sd]∧(z0p x.el∧z0p x.sd)
 fit:=fun _=>True
 len:=fun h=>by rw[h.1];rfl
 keep:=fun h _=>h
 more:=fun h _=>h
structure z2v where
 r:Rou
 A1:Option Addr
 A2:Option Addr
 A3:Option Addr
 A4:Option Addr
 A5:Option Addr
 A6:Option Addr
 A7:Option Addr
 A8:Option Addr
 A9:Option Addr
 c1:Nat
 c2:Nat
 c3:Nat
 c4:Nat
 c5:Nat
 c6:Nat
 c7:Nat
 c8:Nat
 c9:Nat
abbrev z0e (v:z2v):Array Value:=#[.string (bs v.r.name),.int .i64 v.r.ent,.int .i64 v.r.ext,.slice v.A1 v.r.path.length v.c1,.slice v.A2 v.r.pts.length v.c2,.slice v.A3 v.r.secs.length v.c3,.int .i64 v.r.app,.int .i64 v.r.len,.slice v.A4 v.r.over.length v.c4,.slice v.A5 v.r.opts.length v.c5,.slice v.A6 v.r.osecs.length v.c6,.slice v.A7 v.r.flk.length v.c7,.slice v.A8 v.r.grd.length v.c8,.slice v.A9 v.r.gap.length v.c9]
def j9s (v:z2v):List Value:=[.string (bs v.r.name),.int .i64 v.r.ent,.int .i64 v.r.ext,.slice v.A1 v.r.path.length v.c1,.slice v.A2 v.r.pts.length v.c2,.slice v.A3 v.r.secs.length v.c3,.int .i64 v.r.app,.int .i64 v.r.len,.slice v.A4 v.r.over.length v.c4,.slice v.A5 v.r.opts.length v.c5,.slice v.A6 v.r.osecs.length v.c6,.slice v.A7 v.r.flk.length v.c7,.slice v.A8 v.r.grd.length v.c8,.slice v.A9 v.r.gap.length v.c9]
structure RvO (v:z2v):Prop where
 nm:v.r.name.length≤maxLen
 ent:z0p v.r.ent
 ext:z0p v.r.ext
 app:z0p v.r.app
 len:z0p v.r.len
 n1:v.r.path.length≤maxLen∧v.r.path.length≤v.c1
 n2:v.r.pts.length≤maxLen∧v.r.pts.length≤v.c2
 n3:v.r.secs.length≤maxLen∧v.r.secs.length≤v.c3
 n4:v.r.over.length≤maxLen∧v.r.over.length≤v.c4
 n5:v.r.opts.length≤maxLen∧v.r.opts.length≤v.c5
 n6:v.r.osecs.length≤maxLen∧v.r.osecs.length≤v.c6
 n7:v.r.flk.length≤maxLen∧v.r.flk.length≤v.c7
 n8:v.r.grd.length≤maxLen∧v.r.grd.length≤v.c8
 n9:v.r.gap.length≤maxLen∧v.r.gap.length≤v.c9
structure RvR (w:World) (S:Nat→Prop) (v:z2v):Prop where
 o:RvO v
 r1:RdS z1h w S v.A1 v.r.path
 r2:RdS z2x w S v.A2 v.r.pts
 r3:RdS cI w S v.A3 v.r.secs
 r4:RdS z1h w S v.A4 v.r.over
 r5:RdS z2x w S v.A5 v.r.opts
 r6:RdS cI w S v.A6 v.r.osecs
 r7:RdS z2x w S v.A7 v.r.flk
 r8:RdS cI w S v.A8 v.r.grd
 r9:RdS y1z w S v.A9 v.r.gap
section
variable {w w':World} {S S':Nat→Prop} {v:z2v}
theorem RvR.keep (h:RvR w S v) (hk:∀ p:Addr,S p.block→w'.cell? p=w.cell? p):RvR w' S v:=⟨h.o,h.r1.keep hk,h.r2.keep hk,h.r3.keep hk,h.r4.keep hk,h.r5.keep hk,h.r6.keep hk,h.r7.keep hk,h.r8.keep hk,h.r9.keep hk⟩
theorem RvR.more (h:RvR w S v) (hS:∀ b,S b→S' b):RvR w S' v:=⟨h.o,h.r1.more hS,h.r2.more hS,h.r3.more hS,h.r4.more hS,h.r5.more hS,h.r6.more hS,h.r7.more hS,h.r8.more hS,h.r9.more hS⟩
theorem RvR.now (h:RvR w (Lt w) v) (hb:Below w.heap.size w w'):RvR w' (Lt w') v:=(h.keep fun _ hp=>hb.cell hp).more fun _ h=>nT h hb.size
end
def cR:Cod Rou where
 size:=14
 rd:=fun w S cs r=>∃ v:z2v,v.r=r∧cs=j9s v∧RvR w S v
 fit:=fun _=>True
 len:=fun ⟨_,_,h,_⟩=>by rw[h];rfl
 keep:=fun ⟨v,h1,h2,h3⟩ hk=>⟨v,h1,h2,h3.keep hk⟩
 more:=fun ⟨v,h1,h2,h3⟩ hS=>⟨v,h1,h2,h3.more hS⟩
section
variable {w:World} {S:Nat→Prop} {A:Option Addr}
theorem RdS.elR {l:List Rou} (h:RdS cR w S A l) {i:Nat} (hi:i < l.length):∃ b off v,A=some ⟨b,off,none⟩∧S b∧v.r=l[i]∧RvR w S v∧w.cell? ⟨b,off+i*14,none⟩=some (.string (bs v.r.name))∧w.cell? ⟨b,off+i*14+1,none⟩=some (.int .i64 v.r.ent)∧w.cell? ⟨b,off+i*14+2,none⟩=some (.int .i64 v.r.ext)∧w.cell? ⟨b,off+i*14+3,none⟩=some (.slice v.A1 v.r.path.length v.c1)∧w.cell? ⟨b,off+i*14+4,none⟩=some (.slice v.A2 v.r.pts.length v.c2)∧w.cell? ⟨b,off+i*14+5,none⟩=some (.slice v.A3 v.r.secs.length v.c3)∧w.cell? ⟨b,off+i*14+6,none⟩=some (.int .i64 v.r.app)∧w.cell? ⟨b,off+i*14+7,none⟩=some (.int .i64 v.r.len)∧w.cell? ⟨b,off+i*14+8,none⟩=some (.slice v.A4 v.r.over.length v.c4)∧w.cell? ⟨b,off+i*14+9,none⟩=some (.slice v.A5 v.r.opts.length v.c5)∧w.cell? ⟨b,off+i*14+10,none⟩=some (.slice v.A6 v.r.osecs.length v.c6)∧w.cell? ⟨b,off+i*14+11,none⟩=some (.slice v.A7 v.r.flk.length v.c7)∧w.cell? ⟨b,off+i*14+12,none⟩=some (.slice v.A8 v.r.grd.length v.c8)∧w.cell? ⟨b,off+i*14+13,none⟩=some (.slice v.A9 v.r.gap.length v.c9):=by
 obtain ⟨b,off,h1,h2,h3⟩:=h (by omega);obtain ⟨ys,⟨v,h4,rfl,h5⟩,h6⟩:=h3 i l[i] (gqE hi);exact ⟨b,off,v,h1,h2,h4,h5,h6 0 _ rfl,h6 1 _ rfl,h6 2 _ rfl,h6 3 _ rfl,h6 4 _ rfl,h6 5 _ rfl,h6 6 _ rfl,h6 7 _ rfl,h6 8 _ rfl,h6 9 _ rfl,h6 10 _ rfl,h6 11 _ rfl,h6 12 _ rfl,h6 13 _ rfl⟩
theorem RdS.elT {l:List Stp} (h:RdS z1h w S A l) {i:Nat} (hi:i < l.length):∃ b off,A=some ⟨b,off,none⟩∧S b∧(z0p l[i].el∧z0p l[i].inn∧z0p l[i].out)∧w.cell? ⟨b,off+i*3,none⟩=some (.int .i64 l[i].el)∧w.cell? ⟨b,off+i*3+1,none⟩=some (.int .i64 l[i].inn)∧w.cell? ⟨b,off+i*3+2,none⟩=some (.int .i64 l[i].out):=by
 obtain ⟨b,off,h1,h2,h3⟩:=h (by omega);obtain ⟨ys,⟨rfl,h4⟩,h5⟩:=h3 i l[i] (gqE hi);exact ⟨b,off,h1,h2,h4,h5 0 _ rfl,h5 1 _ rfl,h5 2 _ rfl⟩
theorem RdS.elG {l:List Stg} (h:RdS z2x w S A l) {i:Nat} (hi:i < l.length):∃ b off,A=some ⟨b,off,none⟩∧S b∧(z0p l[i].el∧z0p l[i].pos)∧w.cell? ⟨b,off+i*2,none⟩=some (.int .i64 l[i].el)∧w.cell? ⟨b,off+i*2+1,none⟩=some (.int .i64 l[i].pos):=by
 obtain ⟨b,off,h1,h2,h3⟩:=h (by omega);obtain ⟨ys,⟨rfl,h4⟩,h5⟩:=h3 i l[i] (gqE hi);exact ⟨b,off,h1,h2,h4,h5 0 _ rfl,h5 1 _ rfl⟩
theorem RdS.elD {l:List z0o} (h:RdS y1z w S A l) {i:Nat} (hi:i < l.length):∃ b off,A=some ⟨b,off,none⟩∧S b∧(z0p l[i].el∧z0p l[i].sd)∧w.cell? ⟨b,off+i*2,none⟩=some (.int .i64 l[i].el)∧w.cell? ⟨b,off+i*2+1,none⟩=some (.int .i64 l[i].sd):=by
 obtain ⟨b,off,h1,h2,h3⟩:=h (by omega);obtain ⟨ys,⟨rfl,h4⟩,h5⟩:=h3 i l[i] (gqE hi);exact ⟨b,off,h1,h2,h4,h5 0 _ rfl,h5 1 _ rfl⟩
theorem RdS.elI {l:List Int} (h:RdS cI w S A l) {i:Nat} (hi:i < l.length):∃ b off,A=some ⟨b,off,none⟩∧S b∧z0p l[i]∧w.cell? ⟨b,off+i,none⟩=some (.int .i64 l[i]):=by
 obtain ⟨b,off,h1,h2,h3⟩:=h (by omega);obtain ⟨ys,⟨rfl,h4⟩,h5⟩:=h3 i l[i] (gqE hi);have:=h5 0 _ rfl;have e:off+i*cI.size+0=off+i:=by simp[cI]
 rw[e] at this;exact ⟨b,off,h1,h2,h4,this⟩
end
structure z1w where
 t:Tab
 A1:Option Addr
 A2:Option Addr
 A3:Option Addr
 c1:Nat
 c2:Nat
 c3:Nat
abbrev z0t (v:z1w):Array Value:=#[.slice v.A1 v.t.rts.length v.c1,.slice v.A2 v.t.pts.length v.c2,.slice v.A3 v.t.homes.length v.c3,.int .i64 v.t.nsec,.int .i64 v.t.nsig]
def tvA (v:z1w):Value:=.agg (z0t v)
structure TvR (w:World) (v:z1w):Prop where
 r1:RdS cR w (Lt w) v.A1 v.t.rts
 r2:RdS cI w (Lt w) v.A2 v.t.pts
 r3:RdS cI w (Lt w) v.A3 v.t.homes
 n1:v.t.rts.length≤maxLen∧v.t.rts.length≤v.c1
 n2:v.t.pts.length≤maxLen∧v.t.pts.length≤v.c2
 n3:v.t.homes.length≤maxLen∧v.t.homes.length≤v.c3
 sec:z0p v.t.nsec
 sig:z0p v.t.nsig
theorem TvR.now {w w':World} {v:z1w} (h:TvR w v) (hb:Below w.heap.size w w'):TvR w' v:=⟨h.r1.now hb,h.r2.now hb,h.r3.now hb,h.n1,h.n2,h.n3,h.sec,h.sig⟩
structure Bx (w0 w:World) (v:z1w):Prop where
 bel:Below w0.heap.size w0 w
 blk:Blk w w0.heap.size 33 (z0t v)
 rd:TvR w v
section
variable {w0 w w':World} {v:z1w}
theorem Bx.new (h:TvR w v):Bx w (w.alloc (.cells (z0t v) 33)) v:=
 have hb:=(Below.refl w.heap.size w).alloc nL (.cells (z0t v) 33)
 ⟨hb,Blk.new _ _ _ _ rfl,h.now hb⟩
theorem Bx.now (h:Bx w0 w v) (hb:Below w.heap.size w w'):Bx w0 w' v:=⟨z00 h.bel h.bel.size hb,h.blk.now hb,h.rd.now hb⟩
theorem Bx.alloc (h:Bx w0 w v) (o:Obj):Bx w0 (w.alloc o) v:=h.now (bQ.alloc nL o)
theorem Bx.lt (h:Bx w0 w v):w0.heap.size < w.heap.size:=h.blk.lt
theorem Bx.x0 (h:Bx w0 w v):w.cell? ⟨w0.heap.size,0,none⟩=some (.slice v.A1 v.t.rts.length v.c1):=h.blk.cell 0
theorem Bx.x1 (h:Bx w0 w v):w.cell? ⟨w0.heap.size,1,none⟩=some (.slice v.A2 v.t.pts.length v.c2):=h.blk.cell 1
theorem Bx.x2 (h:Bx w0 w v):w.cell? ⟨w0.heap.size,2,none⟩=some (.slice v.A3 v.t.homes.length v.c3):=h.blk.cell 2
theorem Bx.x3 (h:Bx w0 w v):w.cell? ⟨w0.heap.size,3,none⟩=some (.int .i64 v.t.nsec):=h.blk.cell 3
theorem Bx.x4 (h:Bx w0 w v):w.cell? ⟨w0.heap.size,4,none⟩=some (.int .i64 v.t.nsig):=h.blk.cell 4
end
structure RBx (g:Nat) (v:z2v) (w:World):Prop where
 blk:Blk w g 56 (z0e v)
 rd:RvR w (Lt w) v
section
variable {g:Nat} {w w':World} {v:z2v}
theorem RBx.now (h:RBx g v w) (hb:Below w.heap.size w w'):RBx g v w':=⟨h.blk.now hb,h.rd.now hb⟩
theorem RBx.new (h:RvR w (Lt w) v):RBx w.heap.size v (w.alloc (.cells (z0e v) 56)):=⟨Blk.new _ _ _ _ rfl,h.now (bQ.alloc nL _)⟩
theorem RBx.x0 (h:RBx g v w):w.cell? ⟨g,0,none⟩=some (.string (bs v.r.name)):=h.blk.cell 0
theorem RBx.x4 (h:RBx g v w):w.cell? ⟨g,4,none⟩=some (.slice v.A2 v.r.pts.length v.c2):=h.blk.cell 4
theorem RBx.x9 (h:RBx g v w):w.cell? ⟨g,9,none⟩=some (.slice v.A5 v.r.opts.length v.c5):=h.blk.cell 9
theorem RBx.x11 (h:RBx g v w):w.cell? ⟨g,11,none⟩=some (.slice v.A7 v.r.flk.length v.c7):=h.blk.cell 11
end
end Go.Proofs.YtpenlfedkacglaaGreatDoor
namespace Go.Proofs.YtpenlfedkacglaaGreatDoor
structure Elt where
 name:List UInt8
 kind:Int
 len:Int
 grd:Int
 spd:Int
 slow:Int
 sec:Int
deriving DecidableEq
structure Jnt where
 a:z0o
 b:z0o
deriving DecidableEq
structure Sgn where
 name:List UInt8
 pos:z0o
 ovl:Int
deriving DecidableEq
structure Bls where
 id:Int
 el:Int
 off:Int
deriving DecidableEq
structure Lay where
 name:List UInt8
 secs:List (List UInt8)
 els:List Elt
 jts:List Jnt
 sgs:List Sgn
 bls:List Bls
deriving DecidableEq
def z5k {α:Type} [DecidableEq α]:List α→α→Int
 | [],_=>-1
 | x::r,w=>if x=w then 0 else if z5k r w < 0 then -1 else z5k r w+1
section
variable {α:Type} [DecidableEq α]
theorem z8e (l:List α) (w:α):-1≤z5k l w∧z5k l w < l.length:=by
 induction l with
 | nil=>simp[z5k]
 | cons x r ih=>
  unfold z5k;simp only[lCn];split
  ·omega
  ·split <;> omega
theorem j1u {l:List α} {w:α} (h:w∉l):z5k l w = -1:=by
 induction l with
 | nil=>rfl
 | cons x r ih=>
  unfold z5k;rw[if_neg (fun e=>h (by simp[e])),if_pos (by rw[ih (fun e=>h (by simp[e]))];omega)]
theorem y78 {l:List α} {w:α}:∀ {k:Nat},l[k]? = some w→w∉l.take k→z5k l w=k:=by
 induction l with
 | nil=>intro k h;simp at h
 | cons x r ih=>
  intro k h hn
  cases k with
  | zero=>simp at h;simp[z5k,h]
  | succ k=>
   simp at h hn;unfold z5k;rw[if_neg (fun e=>hn.1 e.symm),ih h hn.2,if_neg (by omega)];omega
theorem y8p {l:List α} {w:α} (h:w∈l):0≤z5k l w∧l[(z5k l w).toNat]? = some w:=by
 induction l with
 | nil=>simp at h
 | cons x r ih=>
  unfold z5k;split
  ·rename_i e;simp[e]
  ·rename_i e;have hr:w∈r:=by
    rcases List.mem_cons.1 h with h | h
    ·exact absurd h.symm e
    ·exact h
   obtain ⟨h1,h2⟩:=ih hr;rw[if_neg (by omega)];refine ⟨by omega,?_⟩;rw[show (z5k r w+1).toNat=(z5k r w).toNat+1 by omega];simpa using h2
theorem x0s {l:List α} (h:l.Nodup) {k:Nat} (hk:k < l.length):z5k l l[k]=k:=by
 refine y78 (gqE hk) ?_;intro hm;obtain ⟨i,hi,he⟩:=List.mem_iff_getElem.1 hm;simp only[List.getElem_take] at he;rw[lTk] at hi;exact List.pairwise_iff_getElem.1 h i k (by omega) hk (by omega) he
end
def z2k (k:Int):Int:=if k=1 then 2 else if k=2 then 3 else if k=3 then 4 else 0
def z0s (l:Lay) (i:Int):Int:=((l.els[i.toNat]?).map Elt.kind).getD 0
def z6o (l:Lay) (i:Int):Int:=((l.els[i.toNat]?).map Elt.len).getD 0
def exB (l:Lay) (e:z0o):Bool:=(decide (0≤e.el) && decide (e.el < l.els.length)) && (decide (0≤e.sd) && decide (e.sd < z2k (z0s l e.el)))
def y8g (l:Lay):Bool:=inB l.els.length 1 32 && (inB l.secs.length 1 24 && (decide (l.sgs.length≤20) && decide (l.bls.length≤24)))
def j6m (l:Lay):Bool:=nameB l.name && (l.secs.all nameB && ((l.els.all fun e=>nameB e.name) && l.sgs.all fun s=>nameB s.name))
def j5n (l:Lay):Bool:=decide l.secs.Nodup && (decide (l.els.map Elt.name).Nodup && decide (l.sgs.map Sgn.name).Nodup)
def nmC (l:Lay):Int:=if j6m l=false then 3 else if j5n l=false then 8 else 0
def x1v (l:Lay) (e:Elt):Bool:=inB e.kind 1 3 && (inB e.len 500 1000000 && (inB e.grd (-50) 50 && (inB e.spd 100 10000 && (inB e.sec 0 ((l.secs.length:Int) - 1) && (if e.kind=2 then inB e.slow 100 e.spd else decide (e.slow=0))))))
def y6f (l:Lay) (i:Nat):Bool:=l.els.any fun e=>decide (e.sec=(i:Int))
def j4t (l:Lay):Bool:=(List.range l.secs.length).all (y6f l)
def y2i (l:Lay) (j:Jnt):Bool:=exB l j.a && (exB l j.b && decide (j.a≠j.b))
def z3r (js:List Jnt):List z0o:=js.flatMap fun j=>[j.a,j.b]
def jnC (l:Lay):Int:=if l.jts.all (y2i l)=false then 1 else if decide (z3r l.jts).Nodup=false then 8 else 0
def y69 (l:Lay) (s:Sgn):Bool:=exB l s.pos && inB s.ovl 0 1000000
def z03:List Jnt→z0o→Option z0o
 | [],_=>none
 | j::r,e=>if j.a=e then some j.b else if j.b=e then some j.a else z03 r e
def z0d (l:Lay) (i:Int):Int:=if 0≤i then ((l.els[i.toNat]?).map Elt.sec).getD (-1) else -1
def z94 (l:Lay) (p:z0o):Bool:=match z03 l.jts p with
 | none=>false
 | some f=>decide (z0d l f.el≠z0d l p.el)
def sgC (l:Lay):Int:=if l.sgs.all (y69 l)=false then 1 else if decide (l.sgs.map Sgn.pos).Nodup=false then 8 else if (l.sgs.all fun s=>z94 l s.pos)=false then 14 else 0
def y6s (l:Lay) (b:Bls):Bool:=inB b.id 1 1073741824 && ((decide (0≤b.el) && decide (b.el < l.els.length)) && inB b.off 0 (z6o l b.el))
def blC (l:Lay):Int:=if l.bls.all (y6s l)=false then 1 else if decide (l.bls.map Bls.id).Nodup=false then 8 else 0
def elB (l:Lay):Bool:=l.els.all (x1v l) && j4t l
def z8p (l:Lay):Int:=if y8g l=false then 2 else if nmC l≠0 then nmC l else if elB l=false then 1 else if jnC l≠0 then jnC l else if sgC l≠0 then sgC l else blC l
theorem j0x {l:Lay} (h:z8p l=0):y8g l=true∧nmC l=0∧elB l=true∧jnC l=0∧sgC l=0∧blC l=0:=by
 unfold z8p at h;repeat' (split at h)
 all_goals first
  | (exfalso;first | omega | contradiction)
  | (refine ⟨?_,?_,?_,?_,?_,h⟩ <;> first | simp_all;done | omega)
theorem j6k {l:Lay} (h:nmC l=0):j6m l=true∧j5n l=true:=by
 unfold nmC at h;repeat' (split at h)
 all_goals simp_all
theorem j6c {l:Lay} (h:jnC l=0):l.jts.all (y2i l)=true∧(z3r l.jts).Nodup:=by
 unfold jnC at h;repeat' (split at h)
 all_goals simp_all
theorem j7e {l:Lay} (h:sgC l=0):l.sgs.all (y69 l)=true∧(l.sgs.map Sgn.pos).Nodup:=by
 unfold sgC at h;repeat' (split at h)
 all_goals simp_all
theorem y73 {l:Lay} {e:z0o} (h:exB l e=true):(0≤e.el∧e.el < l.els.length)∧0≤e.sd∧e.sd < 4:=by
 unfold exB at h;simp only[uT,dET] at h;refine ⟨h.1,h.2.1,?_⟩;have h2:=h.2.2;unfold z2k at h2;repeat' (split at h2)
 all_goals omega
theorem x7a {l:Lay} {e:Elt} (h:x1v l e=true):(1≤e.kind∧e.kind≤3)∧(500≤e.len∧e.len≤1000000)∧(-50≤e.grd∧e.grd≤50)∧(100≤e.spd∧e.spd≤10000)∧(0≤e.sec∧e.sec < l.secs.length)∧(e.kind=2→100≤e.slow∧e.slow≤e.spd)∧(e.kind≠2→e.slow=0):=by
 unfold x1v at h;simp only[uT,z1f] at h;obtain ⟨h1,h2,h3,h4,h5,h6⟩:=h;refine ⟨h1,h2,h3,h4,by omega,fun hk=>?_,fun hk=>?_⟩
 ·rw[if_pos hk] at h6;exact z1f.1 h6
 ·rw[if_neg hk] at h6;simpa using h6
theorem y8s {l:Lay} {j:Jnt} (h:y2i l j=true):exB l j.a=true∧exB l j.b=true∧j.a≠j.b:=by
 unfold y2i at h;simpa using h
theorem x9k {l:Lay} {s:Sgn} (h:y69 l s=true):exB l s.pos=true∧0≤s.ovl∧s.ovl≤1000000:=by
 unfold y69 at h;simpa [z1f] using h
end Go.Proofs.YtpenlfedkacglaaGreatDoor
namespace Go.Proofs.YtpenlfedkacglaaGreatDoor
theorem z2g {a b:Bool} (ha:a=true) (hb:b=true):(a && b)=true:=by rw[ha,hb];rfl
theorem y6v:laidOutB Tryz.pinned.checked.prog=true:=by kernel_rfl
theorem j1c:mapsRowed Tryz.pinned.checked.prog=true:=by kernel_rfl
theorem x72:(Tryz.pinned.checked.prog.stops==[])=true:=by kernel_rfl
theorem x6z:(Tryz.pinned.checked.prog.stopKnobs==[])=true:=by kernel_rfl
theorem x6y:Tryz.pinned.checked.prog.stopsHeard=true:=by kernel_rfl
theorem x6x:Tryz.pinned.checked.prog.mayEnter=true:=by kernel_rfl
theorem j1a:(Rows.topLocksRow.lifted==Tryz.pinned.checked.prog.liftsFinal)=true:=by kernel_rfl
theorem j1b:(Tryz.pinned.checked.prog.make==some Rows.topLocksRow.make)=true:=by kernel_rfl
theorem x70:(Rows.topLocksRow.plainKeys==Tryz.pinned.checked.prog.plainKeys)=true:=by kernel_rfl
end Go.Proofs.YtpenlfedkacglaaGreatDoor
namespace Go.Proofs.YtpenlfedkacglaaGreatDoor
open Go.RowKit
attribute [local go_sem] z05 z07 z01 z02
theorem z0a {a b:Bool} (h:a=b):Ending.returned (.bool a)=.returned (.bool b):=by rw[h]
theorem y88 {p:UInt8→Bool} {l:List UInt8} {k:Nat} (h:k < l.length):(l.take (k+1)).all p=((l.take k).all p && p l[k]):=by rw[take_snoc l k h,List.all_append,List.all_cons,List.all_nil,Bool.and_true]
theorem x4h {p:UInt8→Bool} {l:List UInt8} {k:Nat} (h:k < l.length) (hp:p l[k]=false):l.all p=false:=by
 rw[Bool.eq_false_iff];intro h2;rw[List.all_eq_true.1 h2 l[k] (uE h)] at hp;cases hp
theorem j2n {c:UInt8}:nmB c=true↔(97≤c.toNat∧c.toNat≤122)∨(48≤c.toNat∧c.toNat≤57)∨c.toNat=95:=by
 unfold nmB;simp only[Bool.or_eq_true,uT,dET]
theorem y5p {s:List UInt8} (h:s.all nmB=false):nameB s=false:=by unfold nameB;rw[h];simp
theorem x1d (a:UInt8) (t:List UInt8):nameB (a::t)=(decide (t.length+1≤12) && (loB a && (a::t).all nmB)):=by
 unfold nameB;have:decide (1≤(a::t).length)=true:=by simp
 rw[this,Bool.true_and];simp only[lCn,List.head?_cons,Option.map_some,Option.getD_some]
theorem name_any (s:List UInt8) (w:World) (hs:s.length≤maxLen) :
    Calls Tryz.prog 115 #[.string (bs s)] w fun e w'=>e=.returned (.bool (nameB s))∧Below w.heap.size w w':=by
  unfold maxLen at hs
  by_cases hem:s=[]
  · subst hem
    go_enter Tryz.func115,Tryz.ntmps115
    go_wp2_with fail
    go_ret
    exact ⟨rfl,bQ⟩
  · have h0:0 < s.length:=List.length_pos_iff.2 hem
    have hne:s.isEmpty=false:=by simp[hem]
    have hne2:(s==[])=false:=by simp[hem]
    have HN:Hid (nameB s=(decide (s.length≤12) && (loB s[0] && s.all nmB))):=hE (by
      cases s with
      | nil=>exact absurd rfl hem
      | cons a t=>exact x1d a t)
    have HL:Hid (loB s[0]=(decide (97≤s[0].toNat) && decide (s[0].toNat≤122))):=hE rfl
    clear hem
    generalize hc0:s[0].toNat=c0 at HL
    by_cases hg:s.length≤12∧97≤c0∧c0≤122
    · obtain ⟨g1,g2,g3⟩:=hg
      have HF:Hid (nameB s=s.all nmB):=hE (by rw[HN.out,HL.out,dTt g1,dTt g2,dTt g3];rfl)
      clear HN HL
      go_enter Tryz.func115,Tryz.ntmps115
      go_wp2_with fail
      clear g2 g3 hne hne2 hc0
      go_loopw [] (fun w'=>∃ pos:Nat,w' = w.iter (bs s) pos∧pos≤s.length∧Hid ((s.take pos).all nmB=true)) (fun w'=>s.length - w'.iterPos w.heap.size)
      case atStart=>exact ⟨0,rfl,nZ,hE (by simp)⟩
      case round=>
        obtain ⟨pos,rfl,hp,HA⟩:=hrel
        have hbel:∀ q,Below w.heap.size w (w.iter (bs s) q):=fun q=>bQ.alloc nL _
        by_cases hlt:pos < s.length
        · have hsz:pos < (bs s).size:=by rw[z05];exact hlt
          have HC:Hid (nmB s[pos]=true↔(97≤s[pos].toNat∧s[pos].toNat≤122)∨(48≤s[pos].toNat∧s[pos].toNat≤57)∨s[pos].toNat=95):=hE j2n
          by_cases ha:s[pos].toNat < 128
          · have hnx:∀ ty,(Instr.next (.pointer (some ⟨w.heap.size,0,none⟩)) true ty).run Tryz.prog (w.iter (bs s) pos)=.ok (.tuple #[.bool true,.int .i64 pos,.int .i32 (s[pos].toNat)]) (w.iter (bs s) (pos+1)):=fun ty=>run_next_ascii w (bs s) pos ty hsz ha
            generalize s[pos].toNat=c at hnx HC ha
            by_cases hok:(97≤c∧c≤122)∨(48≤c∧c≤57)∨c=95
            · have HK:Hid (nmB s[pos]=true):=hE (HC.out.2 hok)
              by_cases h95:c=95
              · subst h95
                go_wp2
                go_roundw
                case rel=>exact ⟨pos+1,rfl,by omega,hE (by rw[y88 hlt,HA.out,Bool.true_and];exact HK.out)⟩
                case measure=>simp;omega
              · have h95':((c:Int)==95)=false:=by simp;omega
                go_wp2
                all_goals first
                  | (exfalso;first | omega | (simp_all;done) | (simp_all;omega))
                  | (go_roundw
                     case rel=>exact ⟨pos+1,rfl,by omega,hE (by rw[y88 hlt,HA.out,Bool.true_and];exact HK.out)⟩
                     case measure=>simp;omega)
            · have HK:Hid (nmB s[pos]=false):=hE (by rw[Bool.eq_false_iff];exact fun h=>hok (HC.out.1 h))
              have hF:nameB s=false:=y5p (x4h hlt HK.out)
              have HF2:=hE hF
              clear hF
              have h95':((c:Int)==95)=false:=by simp;omega
              go_wp2
              all_goals first
                | (exfalso;first | omega | (simp_all;done) | (simp_all;omega))
                | (go_ret;exact ⟨z0a HF2.out.symm,hbel _⟩)
          · have hd:=decode_high (bs s) pos hsz (by show 128≤s[pos].toNat;omega)
            have hd2:=decode_le (bs s) pos
            have hnx:∀ ty,(Instr.next (.pointer (some ⟨w.heap.size,0,none⟩)) true ty).run Tryz.prog (w.iter (bs s) pos)=_:=fun ty=>run_next_any w (bs s) pos ty hsz
            generalize (Utf8.decode (bs s) pos).1=d at hnx hd hd2
            generalize (Utf8.decode (bs s) pos).2=q at hnx hd
            have HK:Hid (nmB s[pos]=false):=hE (by rw[Bool.eq_false_iff];intro h;have:=HC.out.1 h;omega)
            have hF:nameB s=false:=y5p (x4h hlt HK.out)
            have HF2:=hE hF
            clear hF ha
            obtain ⟨hd,_⟩:=hd
            have c4:((d:Int)==95)=false:=by simp;omega
            go_wp2
            all_goals first
              | (exfalso;first | omega | (simp_all;done) | (simp_all;omega))
              | (go_ret;exact ⟨z0a HF2.out.symm,hbel _⟩)
        · have hnx:∀ ty,(Instr.next (.pointer (some ⟨w.heap.size,0,none⟩)) true ty).run Tryz.prog (w.iter (bs s) pos)=_:=fun ty=>run_next_end w (bs s) pos ty (by rw[z05];exact hlt)
          have hF:nameB s=true:=by rw[HF.out,←x9s s pos hlt];exact HA.out
          have HF2:=hE hF
          clear hF
          go_wp2
          go_ret
          exact ⟨z0a HF2.out.symm,hbel _⟩
    · have hF:nameB s=false:=by
        rw[HN.out,HL.out,Bool.eq_false_iff]
        simp only[ne_eq,uT,dET]
        intro h
        exact hg ⟨h.1,h.2.1⟩
      have HF2:=hE hF
      clear hF HN HL
      go_enter Tryz.func115,Tryz.ntmps115
      go_wp2_with fail
      all_goals first
        | (go_ret;exact ⟨z0a HF2.out.symm,bQ⟩)
        | (exfalso;first | omega | (simp_all;done) | (simp_all;omega))
theorem z7f {α:Type} {c:Cod α} {w:World} {S:Nat→Prop} {u:Value} {l:List α} (h:(cL c).rd w S [u] l):∃ A cap,u=.slice A l.length cap∧(l.length≤maxLen∧l.length≤cap)∧RdS c w S A l:=by
 obtain ⟨A,cap,h1,h2,h3⟩:=h;exact ⟨A,cap,(List.cons.inj h1).1,h2,h3⟩
end Go.Proofs.YtpenlfedkacglaaGreatDoor
