import Derived.Test.YtpenlfedkacglaaGreatDoorL03
set_option maxRecDepth 100000
set_option maxHeartbeats 40000000
set_option linter.all false
namespace Go.Proofs.YtpenlfedkacglaaGreatDoor
def j1w {α:Type} (lt:α→α→Bool) (x:α):List α→List α
 | []=>[x]
 | y::r=>if lt y x=true then y::j1w lt x r else x::y::r
def z4l {α:Type} (lt:α→α→Bool):List α→List α
 | []=>[]
 | x::r=>j1w lt x (z4l lt r)
def z5o {α:Type} [DecidableEq α] (a:α):List α→List α
 | []=>[]
 | x::r=>if x=a then z5o a r else x::z5o x r
def z0v {α:Type} [DecidableEq α]:List α→List α
 | []=>[]
 | x::r=>x::z5o x r
def z2i:List (Int × Int × Int × Int):=[(1,0,1,0),(1,1,0,0),(2,0,1,1),(2,0,2,2),(2,1,0,1),(2,2,0,2),(3,0,1,0),(3,1,0,0),(3,2,3,0),(3,3,2,0)]
def z2a (k i o:Int):Option Int:=(z2i.find? fun p=>decide (p.1=k) && (decide (p.2.1=i) && decide (p.2.2.1=o))).map fun p=>p.2.2.2
def z6x (k i:Int):List Int:=(z2i.filter fun p=>decide (p.1=k) && decide (p.2.1=i)).map fun p=>p.2.2.1
def zP:Stp:=⟨0,0,0⟩
def z2w (l:Lay) (i:Int):Bool:=decide (0≤i) && decide (i < l.els.length)
def y4j (l:Lay) (e:z0o):Int:=z5k (l.sgs.map Sgn.pos) e
def z7m (l:Lay) (s:Stp):Option z0o:=z03 l.jts ⟨s.el,s.out⟩
def x1y (l:Lay) (s:Stp):Option Int:=if z2w l s.el=true then z2a (z0s l s.el) s.inn s.out else none
def brF (l:Lay) (e:z0o):List Stp:=if z2w l e.el=true then (z6x (z0s l e.el) e.sd).map fun o=>⟨e.el,e.sd,o⟩ else []
def z98 (l:Lay):Int→List Stp→Int
 | n,[]=>n
 | n,s::r=>z98 l (if z2w l s.el=true then n+z6o l s.el else n) r
def z1i (l:Lay) (way:List Stp):Int:=z98 l 0 way
def z7b (l:Lay):List Int→List Stp→List Int
 | acc,[]=>acc
 | acc,s::r=>z7b l (if z2w l s.el=true∧z0d l s.el∉acc then acc++[z0d l s.el] else acc) r
def z0y (l:Lay) (way:List Stp):List Int:=z7b l [] way
def ltG (a b:Stg):Bool:=decide (a.el < b.el) || (decide (a.el=b.el) && decide (a.pos < b.pos))
def ltI (a b:Int):Bool:=decide (a < b)
def y4k (l:Lay) (s:Stp):Option Stg:=match x1y l s with
 | some p=>if z0s l s.el=2 then some ⟨s.el,p⟩ else none
 | none=>none
def z1a (l:Lay) (way:List Stp):List Stg:=z0v (z4l ltG (way.filterMap (y4k l)))
def z6s (l:Lay) (path:List Stp) (el:Int) (i:Nat):Bool:=!decide ((path.getD i zP).el=el) && !(decide (0 < i) && (decide (z0d l (path.getD (i - 1) zP).el=z0d l el) && !decide (z0d l (path.getD i zP).el=z0d l el)))
def y1o (l:Lay) (path:List Stp) (el:Int):Bool:=(List.range path.length).all (z6s l path el)
def z3h (path:List Stp):z0o:=⟨(path.getLastD zP).el,(path.getLastD zP).out⟩
def z4v (l:Lay) (path:List Stp):Option z0o:=if y4j l (z3h path) < 0 then z7m l (path.getLastD zP) else none
def z1e (l:Lay):Nat→List Stp→z0o→List (List Stp)
 | 0,_,_=>[]
 | n+1,path,e=>if y1o l path e.el=true then (brF l e).flatMap fun s=>match z4v l (path++[s]) with
   | some on=>z1e l n (path++[s]) on
   | none=>[path++[s]]
  else []
def y82 (l:Lay) (i:Int):List UInt8:=((l.sgs[i.toNat]?).map Sgn.name).getD []
def y4i (l:Lay) (i:Int):z0o:=((l.sgs[i.toNat]?).map Sgn.pos).getD ⟨0,0⟩
def j8z (l:Lay) (i:Int):Int:=((l.sgs[i.toNat]?).map Sgn.ovl).getD 0
def endW:List UInt8:=[101,110,100]
def z2c (l:Lay) (i:Int) (path:List Stp):Rou:={ zR with
 name:=y82 l i++45::(if 0≤y4j l (z3h path) then y82 l (y4j l (z3h path)) else endW)
 ent:=i
 ext:=y4j l (z3h path)
 path:=path
 pts:=z1a l path
 secs:=z0y l path
 app:=z0d l (y4i l i).el
 len:=z1i l path }
def z1l:List (List UInt8)→List Rou→List Rou
 | _,[]=>[]
 | seen,r::t=>(if seen.count r.name=0 then r else { r with name:=r.name++46::Lib.itoa ((seen.count r.name+1:Nat):Int) })::z1l (r.name::seen) t
def z4h (l:Lay) (i:Int):List Rou:=match z03 l.jts (y4i l i) with
 | some e=>z1l [] ((z1e l 12 [] e).map (z2c l i))
 | none=>[]
def y1g (l:Lay):List Rou:=(List.range l.sgs.length).flatMap fun (i:Nat)=>z4h l (i:Int)
def ovF (l:Lay) (secs:List Int) (ovl:Int):Nat→List Stp→Option z0o→List Stp
 | 0,over,_=>over
 | _+1,over,none=>over
 | n+1,over,some e=>if z1i l over < ovl then
   (if (over.any fun s=>decide (s.el=e.el))=true∨z0d l e.el∈secs then over else match brF l e with
    | []=>over
    | s::_=>ovF l secs ovl n (over++[s]) (z7m l s))
  else over
def z4x (l:Lay) (r:Rou):List Stp:=if 0≤r.ext∧r.ext < l.sgs.length then ovF l r.secs (j8z l r.ext) 12 [] (z03 l.jts (y4i l r.ext)) else []
def z1z (l:Lay) (r:Rou):Rou:={ r with over:=z4x l r,opts:=z1a l (z4x l r),osecs:=z0y l (z4x l r) }
def j4q (r:Rou) (el:Int):Bool:=(r.path.any fun s=>decide (s.el=el)) || r.over.any fun s=>decide (s.el=el)
def y7r (r:Rou) (s:Stg):Bool:=decide (s∈r.pts) || (decide (s∈r.opts) || decide (s∈r.flk))
def y1k (r:Rou) (f:z0o):Option Stg:=match z2a 2 f.sd 0 with
 | some p=>if y7r r ⟨f.el,p⟩=true then none else some ⟨f.el,3 - p⟩
 | none=>none
def z3p (l:Lay) (r:Rou):Nat→z0o→Option (Stg × Int)
 | 0,_=>none
 | n+1,e=>match z03 l.jts e with
  | none=>some (zG,-1)
  | some f=>if 0≤y4j l f then some (zG,y4j l f) else if j4q r f.el=true then some (zG,-1) else if z2w l f.el=false then none else if z0s l f.el=2 then (y1k r f).map fun s=>(s,-1) else match z6x (z0s l f.el) f.sd with
   | []=>none
   | o::_=>z3p l r n ⟨f.el,o⟩
def y1x (l:Lay) (s:Stp):List z0o:=if z2w l s.el=true then (match z2a (z0s l s.el) s.inn s.out with
 | some _=>(((List.range (z2k (z0s l s.el)).toNat).map fun (k:Nat)=>(k:Int)).filter fun k=>!decide (k=s.inn) && !decide (k=s.out)).map fun k=>⟨s.el,k⟩
 | none=>[]) else []
def z90 (l:Lay) (r:Rou) (e:z0o):Rou:=match z3p l r 4 e with
 | none=>{ r with gap:=r.gap++[e] }
 | some (s,g)=>if 0≤g then { r with grd:=r.grd++[g] } else if s=zG then r else { r with flk:=r.flk++[s] }
def y2f (l:Lay) (r:Rou):Rou:=((r.path++r.over).flatMap (y1x l)).foldl (z90 l) { r with flk:=[],grd:=[],gap:=[] }
def z8z (l:Lay) (r:Rou):Rou:={ y2f l r with flk:=z0v (z4l ltG (y2f l r).flk),grd:=z0v (z4l ltI (y2f l r).grd) }
def z1m (l:Lay):List Int:=((List.range l.els.length).map fun (i:Nat)=>(i:Int)).filter fun i=>decide (z0s l i=2)
def z5i (l:Lay):Tab:=⟨(y1g l).map fun r=>z8z l (z1z l r),z1m l,(z1m l).map (z0d l),l.secs.length,l.sgs.length⟩
def x0b (l:Lay):Tab × Int:=if z8p l=0 then (if (y1g l).length≤48 then (z5i l,0) else (zT,2)) else (zT,z8p l)
def z1t (r:Rou):List Stg:=z0v (z4l ltG (r.pts++(r.opts++r.flk)))
def plF (t:Tab) (el:Int):Int:=z5k t.pts el
def x67 (t:Tab) (i:Int):Int:=t.homes.getD i.toNat 0
structure RSt where
 st:Int
 rel:Int
 tim:Int
deriving DecidableEq
def zS:RSt:=⟨0,0,0⟩
structure Itr where
 rts:List RSt
 lies:List Int
deriving DecidableEq
structure Inp where
 occ:List Bool
 det:List Int
 clo:List Bool
 cla:List Bool
 pas:List Bool
 calls:List Int
 cans:List Int
deriving DecidableEq
def z0z (x:RSt) (n:Int):Bool:=
 if x.st=0∨x.st=1∨x.st=2 then decide (x.rel=0) && decide (x.tim=0)
 else if x.st=3 then (decide (0≤x.rel) && decide (x.rel < n)) && (decide (x.tim=0) || (decide (x.rel=n - 1) && (decide (0 < x.tim) && decide (x.tim < 4))))
 else if x.st=4 then (decide (0≤x.rel) && decide (x.rel < n)) && (decide (0≤x.tim) && decide (x.tim < 12))
 else false
def y1h (t:Tab) (s:Itr):Bool:=decide (z4y t=0) && ((decide (s.rts.length=t.rts.length) && decide (s.lies.length=t.pts.length)) && (((s.rts.zip t.rts).all fun p=>z0z p.1 p.2.secs.length) && s.lies.all fun p=>decide (p=1) || decide (p=2)))
def z0r (t:Tab) (r:Nat):Rou:=t.rts.getD r zR
def z1d (s:Itr) (r:Nat):RSt:=s.rts.getD r zS
def z1p (r:Rou) (s:RSt):List Int:=if s.st=0 then [] else r.secs.drop s.rel.toNat
def z7n (r:Rou) (s:RSt):List Int:=if s.st=0 then [] else r.osecs
def j4r (t:Tab) (r:Rou) (s:RSt):List Stg:=r.pts.filter fun x=>!decide (x67 t (plF t x.el)∈r.secs.take s.rel.toNat)
def z4s (t:Tab) (r:Rou) (s:RSt):List Stg:=if s.st=0 then [] else z1t { zR with pts:=j4r t r s,opts:=r.opts,flk:=r.flk }
def z3l (r:Rou) (s:RSt):List (Int × Int):=(z1p r s).map (fun n=>(n,0))++(z7n r s).map fun n=>(n,1)
def x1w (a b:Rou):Bool:=decide (0≤a.ext) && decide (b.ent=a.ext)
def z88 (a b:Rou) (lb:List (Int × Int)) (x:Int × Int):Bool:=
 (decide ((x.1,(0:Int))∈lb) && (decide (x.2=0) || !x1w a b)) || (decide ((x.1,(1:Int))∈lb) && (!x1w b a && (decide (x.2=0) || !x1w a b)))
def y6w (a b:Rou) (la lb:List (Int × Int)):Bool:=la.any (z88 a b lb)
def z4u (t:Tab) (s:Itr) (x:Stg):Bool:=decide (s.lies.getD (plF t x.el).toNat 0=x.pos)
def apartB (t:Tab) (s:Itr):Bool:=(List.range t.rts.length).all fun a=>(List.range a).all fun b=>!y6w (z0r t a) (z0r t b) (z3l (z0r t a) (z1d s a)) (z3l (z0r t b) (z1d s b))
def y3s (t:Tab) (s:Itr):Bool:=(List.range t.rts.length).all fun i=>(z4s t (z0r t i) (z1d s i)).all (z4u t s)
def z7z (t:Tab) (s:Itr):Bool:=y1h t s && (apartB t s && y3s t s)
def z2t (l:List Bool) (n:Int):Bool:=decide (n < 0) || l.getD n.toNat true
def y75 (t:Tab) (s:Itr) (i:Inp) (r:Int):Int:=
 if z7z t s=false∨r < 0∨(t.rts.length:Int)≤r then 1
 else if (z1d s r.toNat).st≠0 then 11
 else if ((z3l (z0r t r.toNat) ⟨1,0,0⟩).any fun x=>z2t i.clo x.1)=true then 13
 else if ((List.range t.rts.length).any fun o=>!decide (o=r.toNat) && y6w (z0r t r.toNat) (z0r t o) (z3l (z0r t r.toNat) ⟨1,0,0⟩) (z3l (z0r t o) (z1d s o)))=true then 12
 else if ((List.range t.rts.length).any fun o=>!decide (o=r.toNat) && !y1f (z1t (z0r t r.toNat)) (z4s t (z0r t o) (z1d s o)))=true then 10
 else if ((z1t (z0r t r.toNat)).any fun x=>!z4u t s x && z2t i.occ (x67 t (plF t x.el)))=true then 14
 else 0
def y64 (t:Tab) (i:Inp) (r:Rou):Bool:=((r.secs++r.osecs).all fun n=>!z2t i.occ n) && (z1t r).all fun x=>decide (i.det[(plF t x.el).toNat]? = some x.pos)
def y2c (t:Tab) (i:Inp) (r:Rou) (cla can:Bool):RSt:=
 if z2t i.occ (r.secs.headD 0)=true then ⟨3,0,0⟩
 else if (can && (!cla && !z2t i.occ r.app))=true then zS
 else if (can || !y64 t i r)=true then ⟨4,0,0⟩
 else ⟨2,0,0⟩
def z9t (i:Inp) (r:Rou) (o:RSt) (cla pas can emp:Bool):RSt:=
 if cla=true then ⟨3,o.rel,0⟩
 else if (can && emp)=true then ⟨4,o.rel,0⟩
 else if z2t i.occ (r.secs.getD o.rel.toNat 0)=false then
  (if o.rel=(r.secs.length:Int) - 1 then zS
   else if (pas || z2t i.occ (r.secs.getD (o.rel.toNat+1) 0))=true then ⟨3,o.rel+1,0⟩ else ⟨3,o.rel,0⟩)
 else if o.rel < (r.secs.length:Int) - 1 then ⟨3,o.rel,0⟩
 else if o.tim+1=4 then zS else ⟨3,o.rel,o.tim+1⟩
def x0q (i:Inp) (r:Rou) (o:RSt) (cla emp:Bool):RSt:=
 if z2t i.occ (r.secs.getD o.rel.toNat 0)=true then ⟨3,o.rel,0⟩
 else if (cla || !emp)=true then ⟨4,o.rel,0⟩
 else if o.tim+1=12 then zS else ⟨4,o.rel,o.tim+1⟩
def z7c (t:Tab) (s:Itr) (i:Inp) (r:Nat):RSt:=
 if y1h t s=false then zS else
 if (z1d s r).st=1 then
  (if decide ((r:Int)∈i.cans)=true then zS else if y64 t i (z0r t r)=false then z1d s r else y2c t i (z0r t r) (i.cla.getD r true) (decide ((r:Int)∈i.cans)))
 else if (z1d s r).st=2 then y2c t i (z0r t r) (i.cla.getD r true) (decide ((r:Int)∈i.cans))
 else if (z1d s r).st=3 then z9t i (z0r t r) (z1d s r) (i.cla.getD r true) (i.pas.getD r false) (decide ((r:Int)∈i.cans)) ((z1p (z0r t r) (z1d s r)).all fun n=>!z2t i.occ n)
 else if (z1d s r).st=4 then x0q i (z0r t r) (z1d s r) (i.cla.getD r true) ((z1p (z0r t r) (z1d s r)).all fun n=>!z2t i.occ n)
 else zS
def y3e (t:Tab) (i:Inp) (s:Itr) (r:Int):Itr:=
 if y75 t s i r=0 then ⟨s.rts.set r.toNat ⟨1,0,0⟩,(z1t (z0r t r.toNat)).foldl (fun l x=>l.set (plF t x.el).toNat x.pos) s.lies⟩ else s
def j8k (i:Inp):List Int:=z0v (z4l ltI i.calls)
def z1s (t:Tab) (s:Itr) (i:Inp):Itr:=if z7z t s=true then (j8k i).foldl (y3e t i) ⟨(List.range s.rts.length).map (z7c t s i),s.lies⟩ else s
def z2d (t:Tab) (s:Itr):List Bool:=(List.range t.nsig.toNat).map fun (k:Nat)=>(t.rts.zip s.rts).any fun p=>decide (p.2.st=2) && decide (p.1.ent=(k:Int))
def x26 (t:Tab):Itr:=if z4y t=0 then ⟨t.rts.map fun _=>zS,t.pts.map fun _=>1⟩ else ⟨[],[]⟩
def j3l (t:Tab) (s:Itr) (l:List Inp):Itr:=l.foldl (z1s t) s
section
variable {α:Type} {lt:α→α→Bool}
theorem y0a (x:α):∀ l:List α,(j1w lt x l).Perm (x::l)
 | []=>List.Perm.refl _
 | y::r=>by
  unfold j1w;split
  ·exact ((y0a x r).cons y).trans (List.Perm.swap x y r)
  ·exact List.Perm.refl _
theorem z1k:∀ l:List α,(z4l lt l).Perm l
 | []=>List.Perm.refl _
 | x::r=>(y0a x _).trans ((z1k r).cons x)
theorem y92 {l:List α} {a:α}:a∈z4l lt l↔a∈l:=(z1k l).mem_iff
theorem y0b (ht:∀ a b c,lt b a=false→lt c b=false→lt c a=false) (hi:∀ a b,lt a b=true→lt b a=false) (x:α):∀ l:List α,l.Pairwise (fun a b=>lt b a=false)→(j1w lt x l).Pairwise fun a b=>lt b a=false
 | [],_=>by simp[j1w]
 | y::r,h=>by
  unfold j1w;rw[List.pairwise_cons] at h;split
  ·rename_i hyx;refine List.pairwise_cons.2 ⟨fun b hb=>?_,y0b ht hi x r h.2⟩;rcases List.mem_cons.1 ((y0a x r).mem_iff.1 hb) with rfl | hb
   ·exact hi _ _ hyx
   ·exact h.1 b hb
  ·rename_i hyx;have hyx:lt y x=false:=by simpa using hyx
   refine List.pairwise_cons.2 ⟨fun b hb=>?_,List.pairwise_cons.2 h⟩;rcases List.mem_cons.1 hb with rfl | hb
   ·exact hyx
   ·exact ht _ _ _ hyx (h.1 b hb)
theorem z5b (ht:∀ a b c,lt b a=false→lt c b=false→lt c a=false) (hi:∀ a b,lt a b=true→lt b a=false):∀ l:List α,(z4l lt l).Pairwise fun a b=>lt b a=false
 | []=>List.Pairwise.nil
 | x::r=>y0b ht hi x _ (z5b ht hi r)
theorem y6c (ha:∀ a b,lt a b=false→lt b a=false→a=b) {l m:List α} (hp:l.Perm m) (h1:l.Pairwise fun a b=>lt b a=false) (h2:m.Pairwise fun a b=>lt b a=false):l=m:=
 hp.eq_of_pairwise (fun a b _ _ h3 h4=>ha a b h4 h3) h1 h2
variable [DecidableEq α]
theorem y5n {a x:α}:∀ {l:List α},x∈z5o a l→x∈l:=by
 intro l
 induction l generalizing a with
 | nil=>exact fun h=>h
 | cons y r ih=>
  intro h;unfold z5o at h;split at h
  ·exact mCm _ (ih h)
  ·rcases List.mem_cons.1 h with rfl | h
   ·exact mCs
   ·exact mCm _ (ih h)
theorem x2x {a x:α}:∀ {l:List α},x∈l→x=a∨x∈z5o a l:=by
 intro l
 induction l generalizing a with
 | nil=>exact fun h=>Or.inr h
 | cons y r ih=>
  intro h;unfold z5o;rcases List.mem_cons.1 h with rfl | h
  ·split
   ·rename_i e;exact Or.inl e
   ·exact Or.inr mCs
  ·split
   ·exact ih h
   ·rcases ih (a:=y) h with rfl | h
    ·exact Or.inr mCs
    ·exact Or.inr (mCm _ h)
theorem y5m {x:α} {l:List α}:x∈z0v l↔x∈l:=by
 cases l with
 | nil=>exact Iff.rfl
 | cons y r=>
  unfold z0v;constructor
  ·intro h;rcases List.mem_cons.1 h with rfl | h
   ·exact mCs
   ·exact mCm _ (y5n h)
  ·intro h;rcases List.mem_cons.1 h with rfl | h
   ·exact mCs
   ·rcases x2x (a:=y) h with rfl | h
    ·exact mCs
    ·exact mCm _ h
theorem y51 (ha:∀ a b,lt a b=false→lt b a=false→a=b) {a:α}:∀ {l:List α},(a::l).Pairwise (fun a b=>lt b a=false)→(a::z5o a l).Pairwise fun a b=>lt a b=true:=by
 intro l
 induction l generalizing a with
 | nil=>intro _;simp[z5o]
 | cons y r ih=>
  intro h;have h':=List.pairwise_cons.1 h;unfold z5o;split
  ·rename_i e;subst e;exact ih (List.pairwise_cons.2 ⟨fun b hb=>h'.1 b (mCm _ hb),(List.pairwise_cons.1 h'.2).2⟩)
  ·rename_i e;have hy:=ih h'.2;refine List.pairwise_cons.2 ⟨fun b hb=>?_,hy⟩;have hb2:b∈y::r:=by
    rcases List.mem_cons.1 hb with rfl | hb
    ·exact mCs
    ·exact mCm _ (y5n hb)
   have h3:=h'.1 b hb2
   cases h4:lt a b with
   | true=>rfl
   | false=>
    exfalso;have hab:=ha a b h4 h3;subst hab;rcases List.mem_cons.1 hb with rfl | hb
    ·exact e rfl
    ·have h5:=(List.pairwise_cons.1 hy).1 _ hb;have h6:=h'.1 y mCs;rw[h5] at h6;cases h6
theorem y4z (ha:∀ a b,lt a b=false→lt b a=false→a=b) {l:List α} (h:l.Pairwise (fun a b=>lt b a=false)):(z0v l).Pairwise fun a b=>lt a b=true:=by
 cases l with
 | nil=>exact List.Pairwise.nil
 | cons y r=>exact y51 ha h
end
theorem y0d {a b:Stg}:ltG a b=true↔a.el < b.el∨(a.el=b.el∧a.pos < b.pos):=by simp[ltG]
theorem y5k {a b:Stg}:ltG a b=false↔b.el < a.el∨(a.el=b.el∧b.pos≤a.pos):=by
 rw[←Bool.not_eq_true,y0d];omega
theorem x4b (a b c:Stg) (h1:ltG b a=false) (h2:ltG c b=false):ltG c a=false:=by rw[y5k] at *;omega
theorem x4a (a b:Stg) (h:ltG a b=true):ltG b a=false:=by rw[y5k];rw[y0d] at h;omega
theorem x49 (a b:Stg) (h1:ltG a b=false) (h2:ltG b a=false):a=b:=by
 rw[y5k] at h1 h2;cases a;cases b;simp only[Stg.mk.injEq] at *;omega
def x64 (l:List Stg):Prop:=∀ x∈l,∀ y∈l,x.el=y.el→x.pos=y.pos
theorem z4e {l:List Stg} {x:Stg}:x∈z0v (z4l ltG l)↔x∈l:=by rw[y5m,y92]
theorem y68 {l:List Stg} (h:x64 l):(z0v (z4l ltG l)).Pairwise fun a b=>a.el < b.el:=by
 have h1:=y4z x49 (z5b x4b x4a l);refine h1.imp_of_mem fun {a b} ha hb hab=>?_
 rw[y0d] at hab;rcases hab with h2 | ⟨h2,h3⟩
 ·exact h2
 ·have:=h a (z4e.1 ha) b (z4e.1 hb) h2;omega
theorem j0q {l:List Stg} (h:l.Pairwise fun a b=>a.el < b.el):x64 l:=by
 intro x hx y hy hxy;obtain ⟨i,hi,rfl⟩:=List.mem_iff_getElem.1 hx;obtain ⟨j,hj,rfl⟩:=List.mem_iff_getElem.1 hy;have:=List.pairwise_iff_getElem.1 h;rcases Nat.lt_trichotomy i j with h1 | h1 | h1
 ·have:=this i j hi hj h1;omega
 ·subst h1;rfl
 ·have:=this j i hj hi h1;omega
theorem j4a {t:Tab} {l:List Stg} (ha:l.Pairwise fun a b=>a.el < b.el) (h:∀ x∈l,x.el∈t.pts∧(x.pos=1∨x.pos=2)):y0z t l=true:=by
 unfold y0z;rw[laT];intro i hi;have hi:i < l.length:=List.mem_range.1 hi;unfold stB;have e1:l.getD i zG=l[i]:=by simp[List.getD,hi]
 have hx:=h l[i] (uE hi);rw[e1];simp only[uT,Bool.or_eq_true,dET];refine ⟨hx.1,hx.2,?_⟩;by_cases h0:i=0
 ·exact Or.inl h0
 ·right;have e2:l.getD (i - 1) zG=l[i - 1]:=by simp[List.getD,show i - 1 < l.length by omega]
  rw[e2];exact List.pairwise_iff_getElem.1 ha (i - 1) i (by omega) hi (by omega)
theorem y36 {a b:List Stg}:y1f a b=true↔∀ x∈a,∀ y∈b,x.el=y.el→x.pos=y.pos:=by
 unfold y1f;simp only[laT,Bool.not_eq_true',Bool.and_eq_false_iff,decide_eq_false_iff_not,ne_eq,Decidable.not_not];constructor
 ·intro h x hx y hy he;rcases h x hx y hy with h | h
  ·exact absurd he h
  ·exact h
 ·intro h x hx y hy;by_cases he:x.el=y.el
  ·exact Or.inr (h x hx y hy he)
  ·exact Or.inl he
theorem y97 {k i o q:Int} (h:z2a k i o=some q):(k,i,o,q)∈z2i:=by
 unfold z2a at h;rw[Option.map_eq_some_iff] at h;obtain ⟨p,h1,rfl⟩:=h;have h2:=List.find?_some h1;have h3:=List.mem_of_find?_eq_some h1;simp only[uT,dET] at h2;obtain ⟨rfl,rfl,rfl⟩:=h2;exact h3
theorem y9a {i o q:Int} (h:z2a 2 i o=some q):q=1∨q=2:=by
 have:=y97 h;simp only[z2i,List.mem_cons,Prod.mk.injEq,List.not_mem_nil,or_false] at this;omega
theorem x3w {k i o:Int} (h:o∈z6x k i):∃ q,z2a k i o=some q:=by
 unfold z6x at h;obtain ⟨p,h1,rfl⟩:=List.mem_map.1 h;obtain ⟨h2,h3⟩:=List.mem_filter.1 h1;simp only[uT,dET] at h3;unfold z2a
 cases hf:z2i.find? (fun p'=>decide (p'.1=k) && (decide (p'.2.1=i) && decide (p'.2.2.1=p.2.2.1))) with
 | some y=>exact ⟨_,rfl⟩
 | none=>
  have:=List.find?_eq_none.1 hf p h2;simp[h3.1,h3.2] at this
theorem j05 {l:Lay} {e:z0o} {s:Stp} (h:s∈brF l e):z2w l e.el=true∧s.el=e.el∧s.inn=e.sd∧∃ q,z2a (z0s l s.el) s.inn s.out=some q:=by
 unfold brF at h;split at h
 ·rename_i he;obtain ⟨o,ho,rfl⟩:=List.mem_map.1 h;exact ⟨he,rfl,rfl,x3w ho⟩
 ·cases h
theorem z4k {l:Lay} {i:Int}:z2w l i=true↔0≤i∧i < l.els.length:=by simp[z2w]
structure z9a (l:Lay):Prop where
 el:∀ i,z2w l i=true→(1≤z0s l i∧z0s l i≤3)∧500≤z6o l i∧z6o l i≤1000000∧0≤z0d l i∧z0d l i < l.secs.length
 jn:∀ e f,z03 l.jts e=some f→z2w l f.el=true
 sg:∀ s∈l.sgs,z2w l s.pos.el=true∧nameB s.name=true
 nm:(l.sgs.map Sgn.name).Nodup
 nl:l.els.length≤32
 ns:l.secs.length≤24
 ng:l.sgs.length≤20
theorem y2k:∀ {js:List Jnt} {e f:z0o},z03 js e=some f→∃ j∈js,f=j.a∨f=j.b
 | j::r,e,f,h=>by
  unfold z03 at h;split at h
  ·exact ⟨j,mCs,Or.inr (sJ h).symm⟩
  ·split at h
   ·exact ⟨j,mCs,Or.inl (sJ h).symm⟩
   ·obtain ⟨j',h1,h2⟩:=y2k h;exact ⟨j',mCm _ h1,h2⟩
theorem j7x {l:Lay} (h:z8p l=0):z9a l:=by
 obtain ⟨h1,h2,h3,h4,h5,h6⟩:=j0x h;have hn:=j6k h2;have hj:=j6c h4;have hs:=j7e h5;unfold y8g at h1;simp only[uT,z1f,dET] at h1;unfold elB at h3;rw[uT,laT] at h3;have hd:=hn.2;unfold j5n at hd;simp only[uT,dET] at hd;have hm:=hn.1;unfold j6m at hm;simp only[uT,laT] at hm;refine ⟨fun i hi=>?_,fun e f hef=>?_,fun s hs'=>?_,hd.2.2,by omega,by omega,by omega⟩
 ·rw[z4k] at hi;have hlt:i.toNat < l.els.length:=by omega
  have:=x7a (h3.1 _ (uE hlt));have e1:z0s l i=l.els[i.toNat].kind:=by simp[z0s,hlt]
  have e2:z6o l i=l.els[i.toNat].len:=by simp[z6o,hlt]
  have e3:z0d l i=l.els[i.toNat].sec:=by simp[z0d,hlt,hi.1]
  rw[e1,e2,e3];exact ⟨this.1,this.2.1.1,this.2.1.2,this.2.2.2.2.1⟩
 ·obtain ⟨j,h7,h8⟩:=y2k hef;have h9:=y8s (List.all_eq_true.1 hj.1 j h7);rw[z4k];rcases h8 with rfl | rfl
  ·exact (y73 h9.1).1
  ·exact (y73 h9.2.1).1
 ·have h7:=x9k (List.all_eq_true.1 hs.1 s hs');exact ⟨z4k.2 (y73 h7.1).1,hm.2.2.2 s hs'⟩
structure y1v (l:Lay) (p:List Stp):Prop where
 st:∀ s∈p,z2w l s.el=true∧∃ q,z2a (z0s l s.el) s.inn s.out=some q
 nd:(p.map Stp.el).Nodup
theorem y1v.nil (l:Lay):y1v l []:=⟨fun s hs=>by simp at hs,List.nodup_nil⟩
theorem y1v.snoc {l:Lay} {p:List Stp} {s:Stp} (h:y1v l p) (h1:z2w l s.el=true) (h2:∃ q,z2a (z0s l s.el) s.inn s.out=some q) (h3:s.el∉p.map Stp.el):y1v l (p++[s]):=by
 refine ⟨fun x hx=>?_,?_⟩
 ·rcases List.mem_append.1 hx with hx | hx
  ·exact h.st x hx
  ·obtain rfl:=List.mem_singleton.1 hx;exact ⟨h1,h2⟩
 ·rw[List.map_append,List.nodup_append];refine ⟨h.nd,by simp,fun a ha b hb=>?_⟩;simp only[List.map_cons,List.map_nil,List.mem_singleton] at hb;subst hb;exact fun e=>h3 (e▸ha)
theorem x8z {l:Lay} {path:List Stp} {el:Int} (h:y1o l path el=true):el∉path.map Stp.el:=by
 intro hm;obtain ⟨s,hs,rfl⟩:=List.mem_map.1 hm;obtain ⟨i,hi,rfl⟩:=List.mem_iff_getElem.1 hs;unfold y1o at h;have:=List.all_eq_true.1 h i (List.mem_range.2 hi);unfold z6s at this;rw[show path.getD i zP=path[i] by simp[List.getD,hi]] at this;simp at this
theorem y07 {l:Lay} (hk:z9a l):∀ (n:Nat) (path:List Stp) (e:z0o),y1v l path→path.length+n=12→z2w l e.el=true→∀ p∈z1e l n path e,y1v l p∧1≤p.length∧p.length≤12:=by
 intro n
 induction n with
 | zero=>intro path e _ _ _ p hp;simp[z1e] at hp
 | succ n ih=>
  intro path e hw hl he p hp;unfold z1e at hp;split at hp
  ·rename_i ho;obtain ⟨s,hs,hp⟩:=List.mem_flatMap.1 hp;obtain ⟨h1,h2,h3,h4⟩:=j05 hs;have hw':y1v l (path++[s]):=hw.snoc (h2▸h1) h4 (h2▸x8z ho);split at hp
   ·rename_i on hon;have hjn:z2w l on.el=true:=by
     unfold z4v at hon;split at hon
     ·exact hk.jn _ _ hon
     ·cases hon
    exact ih _ _ hw' (by simp;omega) hjn p hp
   ·obtain rfl:=List.mem_singleton.1 hp;exact ⟨hw',by simp,by simp;omega⟩
  ·cases hp
theorem y2w (l:Lay):∀ (way:List Stp) (acc:List Int),acc.Nodup→(z7b l acc way).Nodup∧∀ x,x∈z7b l acc way↔x∈acc∨∃ s∈way,z2w l s.el=true∧z0d l s.el=x:=by
 intro way
 induction way with
 | nil=>intro acc h;exact ⟨h,fun x=>by simp[z7b]⟩
 | cons s r ih=>
  intro acc h;unfold z7b;split
  ·rename_i hc;have hn:(acc++[z0d l s.el]).Nodup:=by
    rw[List.nodup_append];refine ⟨h,by simp,fun a ha b hb=>?_⟩;obtain rfl:=List.mem_singleton.1 hb;exact fun e=>hc.2 (e▸ha)
   obtain ⟨h1,h2⟩:=ih _ hn;refine ⟨h1,fun x=>?_⟩;rw[h2];constructor
   ·rintro (h3 | ⟨s',h3,h4⟩)
    ·rcases List.mem_append.1 h3 with h3 | h3
     ·exact Or.inl h3
     ·exact Or.inr ⟨s,mCs,hc.1,(List.mem_singleton.1 h3).symm⟩
    ·exact Or.inr ⟨s',mCm _ h3,h4⟩
   ·rintro (h3 | ⟨s',h3,h4⟩)
    ·exact Or.inl (List.mem_append_left _ h3)
    ·rcases List.mem_cons.1 h3 with rfl | h3
     ·exact Or.inl (List.mem_append_right _ (by simp[h4.2]))
     ·exact Or.inr ⟨s',h3,h4⟩
  ·rename_i hc;obtain ⟨h1,h2⟩:=ih _ h;refine ⟨h1,fun x=>?_⟩;rw[h2];constructor
   ·rintro (h3 | ⟨s',h3,h4⟩)
    ·exact Or.inl h3
    ·exact Or.inr ⟨s',mCm _ h3,h4⟩
   ·rintro (h3 | ⟨s',h3,h4⟩)
    ·exact Or.inl h3
    ·rcases List.mem_cons.1 h3 with rfl | h3
     ·left;by_cases hm:z0d l s'.el∈acc
      ·exact h4.2▸hm
      ·exact absurd ⟨h4.1,hm⟩ hc
     ·exact Or.inr ⟨s',h3,h4⟩
theorem y0q (l:Lay) (way:List Stp):(z0y l way).Nodup:=(y2w l way [] List.nodup_nil).1
theorem z7t {l:Lay} {way:List Stp} {x:Int}:x∈z0y l way↔∃ s∈way,z2w l s.el=true∧z0d l s.el=x:=by
 unfold z0y;rw[(y2w l way [] List.nodup_nil).2];simp
theorem z5y {l:Lay} {s:Stp} {x:Stg} (h:y4k l s=some x):x.el=s.el∧z0s l s.el=2∧z2w l s.el=true∧(x.pos=1∨x.pos=2):=by
 unfold y4k at h;split at h
 ·rename_i p hp;split at h
  ·rename_i hk;obtain rfl:=sJ h;unfold x1y at hp;split at hp
   ·rename_i he;rw[hk] at hp;exact ⟨rfl,hk,he,y9a hp⟩
   ·cases hp
  ·cases h
 ·cases h
theorem y0t {l:Lay} {way:List Stp} {x:Stg}:x∈z1a l way↔∃ s∈way,y4k l s=some x:=by
 unfold z1a;rw[z4e,List.mem_filterMap]
theorem j4i {l:Lay} {p:List Stp} (h:(p.map Stp.el).Nodup) {s s':Stp} (h1:s∈p) (h2:s'∈p) (he:s.el=s'.el):s=s':=by
 obtain ⟨i,hi,rfl⟩:=List.mem_iff_getElem.1 h1;obtain ⟨j,hj,rfl⟩:=List.mem_iff_getElem.1 h2;have hp:=List.pairwise_iff_getElem.1 h;rcases Nat.lt_trichotomy i j with h1 | h1 | h1
 ·exact absurd (by rw[List.getElem_map,List.getElem_map];exact he) (hp i j (by simpa using hi) (by simpa using hj) h1)
 ·subst h1;rfl
 ·exact absurd (by rw[List.getElem_map,List.getElem_map];exact he.symm) (hp j i (by simpa using hj) (by simpa using hi) h1)
theorem x5k {l:Lay} {p:List Stp} (h:(p.map Stp.el).Nodup):x64 (p.filterMap (y4k l)):=by
 intro x hx y hy he;obtain ⟨s,h1,h2⟩:=List.mem_filterMap.1 hx;obtain ⟨s',h3,h4⟩:=List.mem_filterMap.1 hy;have h5:=j4i (l:=l) h h1 h3 (by rw[←(z5y h2).1,←(z5y h4).1,he]);subst h5;rw[h2] at h4;rw[sJ h4]
theorem y4n {l:Lay} (hk:z9a l):∀ (way:List Stp) (n:Int),n≤z98 l n way∧z98 l n way≤n+1000000*way.length:=by
 intro way
 induction way with
 | nil=>intro n;simp[z98]
 | cons s r ih=>
  intro n;unfold z98;split
  ·rename_i he;have:=(hk.el _ he).2;have h2:=ih (n+z6o l s.el);simp only[lCn];omega
  ·have h2:=ih n;simp only[lCn];omega
theorem x9y {l:Lay} (hk:z9a l) {s:Stp} {r:List Stp} (he:z2w l s.el=true):1≤z1i l (s::r):=by
 unfold z1i z98;rw[if_pos he];have:=(hk.el _ he).2.1;have h2:=(y4n hk r (0+z6o l s.el)).1;omega
end Go.Proofs.YtpenlfedkacglaaGreatDoor
namespace Go.Proofs.YtpenlfedkacglaaGreatDoor
structure j02 (l:Lay) (r:Rou):Prop where
 ent:0≤r.ent∧r.ent < l.sgs.length
 ext:-1≤r.ext∧r.ext < l.sgs.length
 way:y1v l r.path
 n1:1≤r.path.length
 n2:r.path.length≤12
 pts:r.pts=z1a l r.path
 secs:r.secs=z0y l r.path
 app:0≤r.app∧r.app < l.secs.length
 len:1≤r.len∧r.len≤12000000
theorem j7c {l:Lay} {i:Nat} (hi:i < l.sgs.length):y4i l (i:Int)=l.sgs[i].pos∧y82 l (i:Int)=l.sgs[i].name:=by
 unfold y4i y82;simp[hi]
theorem y0v (l:Lay) (e:z0o):-1≤y4j l e∧y4j l e < l.sgs.length:=by
 have:=z8e (l.sgs.map Sgn.pos) e;rw[List.length_map] at this;exact this
theorem x6m {l:Lay} (hk:z9a l) {i:Nat} (hi:i < l.sgs.length) {p:List Stp} (hw:y1v l p) (h1:1≤p.length) (h2:p.length≤12):j02 l (z2c l i p):=by
 have hs:=hk.sg _ (uE hi);have ha:=hk.el _ hs.1;refine ⟨⟨by simp[z2c],by simp[z2c];omega⟩,y0v l _,hw,h1,h2,rfl,rfl,?_,?_⟩
 ·simp only[z2c];rw[(j7c hi).1];exact ⟨ha.2.2.2.1,ha.2.2.2.2⟩
 ·simp only[z2c]
  cases p with
  | nil=>simp at h1
  | cons s r=>
   refine ⟨x9y hk (hw.st s mCs).1,?_⟩;have:=(y4n hk (s::r) 0).2;unfold z1i;simp only[lCn] at *;omega
theorem y5q {l:Lay}:∀ (t:List Rou) (seen:List (List UInt8)) (r:Rou),r∈z1l seen t→∃ r0∈t,∃ nm,r = { r0 with name:=nm }:=by
 intro t
 induction t with
 | nil=>intro seen r h;simp[z1l] at h
 | cons x t ih=>
  intro seen r h;unfold z1l at h;rcases List.mem_cons.1 h with rfl | h
  ·refine ⟨x,mCs,?_⟩;split
   ·exact ⟨x.name,rfl⟩
   ·exact ⟨_,rfl⟩
  ·obtain ⟨r0,h1,h2⟩:=ih _ _ h;exact ⟨r0,mCm _ h1,h2⟩
theorem x7m {l:Lay} (hk:z9a l) {i:Nat} (hi:i < l.sgs.length) {r:Rou} (h:r∈z4h l i):j02 l r∧r.over=[]∧r.opts=[]∧r.osecs=[]∧r.flk=[]:=by
 unfold z4h at h;split at h
 ·rename_i e he;obtain ⟨r0,h1,nm,rfl⟩:=y5q (l:=l) _ _ _ h;obtain ⟨p,hp,rfl⟩:=List.mem_map.1 h1;obtain ⟨h2,h3,h4⟩:=y07 hk 12 [] e (y1v.nil l) rfl (hk.jn _ _ he) p hp;have:=x6m hk hi h2 h3 h4;exact ⟨⟨this.ent,this.ext,this.way,this.n1,this.n2,this.pts,this.secs,this.app,this.len⟩,rfl,rfl,rfl,rfl⟩
 ·cases h
theorem j0o {l:Lay} (hk:z9a l) {r:Rou} (h:r∈y1g l):j02 l r∧r.over=[]∧r.opts=[]∧r.osecs=[]∧r.flk=[]:=by
 unfold y1g at h;obtain ⟨i,hi,h⟩:=List.mem_flatMap.1 h;exact x7m hk (List.mem_range.1 hi) h
theorem y9r {a b u v:List UInt8} {c:UInt8} (ha:c∉a) (hb:c∉b) (h:a++c::u=b++c::v):a=b∧u=v:=by
 induction a generalizing b with
 | nil=>
  cases b with
  | nil=>simpa using h
  | cons y b=>
   simp only[List.nil_append,List.cons_append,List.cons.injEq] at h
   exact absurd (h.1▸mCs) hb
 | cons x a ih=>
  cases b with
  | nil=>
   simp only[List.nil_append,List.cons_append,List.cons.injEq] at h
   exact absurd (h.1▸mCs) ha
  | cons y b=>
   simp only[List.cons_append,List.cons.injEq] at h;obtain ⟨h1,h2⟩:=ih (fun hm=>ha (mCm _ hm)) (fun hm=>hb (mCm _ hm)) h.2;exact ⟨by rw[h.1,h1],h2⟩
theorem j2j {s:List UInt8} (h:nameB s=true):45∉s∧46∉s:=by
 unfold nameB at h;simp only[uT,laT] at h;have h2:=h.2.2;constructor
 ·intro hm;exact absurd (h2 _ hm) (by decide)
 ·intro hm;exact absurd (h2 _ hm) (by decide)
theorem x7t {n m:Nat} (hn:n≤100000) (hm:m≤100000) (h:Lib.itoa (n:Int)=Lib.itoa (m:Int)):n=m:=by
 have h1:=y8r (n:Int) (by omega) (by omega);have h2:=y8r (m:Int) (by omega) (by omega);rw[h,h2] at h1;simp only[Prod.mk.injEq] at h1;omega
def j2p (x:List UInt8) (n:Nat):List UInt8:=if n=0 then x else x++46::Lib.itoa ((n+1:Nat):Int)
theorem x8t {x y:List UInt8} {n m:Nat} (hx:46∉x) (hy:46∉y) (hn:n≤50000) (hm:m≤50000) (h:j2p x n=j2p y m):x=y∧n=m:=by
 unfold j2p at h;split at h
 ·split at h
  ·exact ⟨h,by omega⟩
  ·exact absurd (h▸by simp) hx
 ·split at h
  ·exact absurd (h▸by simp) hy
  ·obtain ⟨h1,h2⟩:=y9r hx hy h;have:=x7t (by omega) (by omega) h2;exact ⟨h1,by omega⟩
theorem y2p (seen:List (List UInt8)) (r:Rou) (t:List Rou):(z1l seen (r::t)).map Rou.name=j2p r.name (seen.count r.name)::(z1l (r.name::seen) t).map Rou.name:=by
 rw[z1l,List.map_cons];unfold j2p;split <;> rfl
theorem y0e:∀ (t:List Rou) (seen:List (List UInt8)) (x:List UInt8),x∈(z1l seen t).map Rou.name→∃ r∈t,∃ n,x=j2p r.name n∧seen.count r.name≤n∧n < seen.length+t.length:=by
 intro t
 induction t with
 | nil=>intro seen x h;simp[z1l] at h
 | cons r t ih=>
  intro seen x h;rw[y2p] at h;rcases List.mem_cons.1 h with rfl | h
  ·refine ⟨r,mCs,_,rfl,nL,?_⟩;have:=List.count_le_length (a:=r.name) (l:=seen);simp only[lCn];omega
  ·obtain ⟨r',h1,n,h2,h3,h4⟩:=ih _ _ h;refine ⟨r',mCm _ h1,n,h2,?_,by simp only[lCn] at *;omega⟩;rw[List.count_cons] at h3;omega
theorem y7q:∀ (t:List Rou) (seen:List (List UInt8)),(∀ r∈t,46∉r.name)→seen.length+t.length≤50000→((z1l seen t).map Rou.name).Nodup:=by
 intro t
 induction t with
 | nil=>intro seen _ _;simp[z1l]
 | cons r t ih=>
  intro seen h hl;rw[y2p];simp only[lCn] at hl;refine List.nodup_cons.2 ⟨fun hm=>?_,ih _ (fun r' h'=>h r' (mCm _ h')) (by simp only[lCn];omega)⟩;obtain ⟨r',h1,n,h2,h3,h4⟩:=y0e _ _ _ hm;simp only[lCn] at h4;have hc:=List.count_le_length (a:=r.name) (l:=seen);obtain ⟨h5,h6⟩:=x8t (h r mCs) (h r' (mCm _ h1)) (by omega) (by omega) h2;rw[←h5,List.count_cons_self] at h3;omega
theorem j1j:(45:UInt8)∉endW∧(46:UInt8)∉endW:=by decide
theorem y4h {l:Lay} (hk:z9a l) {i:Int} (h0:0≤i) (h1:i < l.sgs.length):45∉y82 l i∧46∉y82 l i:=by
 have hlt:i.toNat < l.sgs.length:=by omega
 have e:y82 l i=l.sgs[i.toNat].name:=by simp[y82,hlt]
 rw[e];exact j2j (hk.sg _ (uE hlt)).2
theorem y1y {l:Lay} (hk:z9a l) {i:Nat} (hi:i < l.sgs.length) (p:List Stp):∃ b,(z2c l i p).name=y82 l i++45::b∧46∉b:=by
 refine ⟨_,rfl,?_⟩;have:=y0v l (z3h p);split
 ·rename_i h0;exact (y4h hk h0 this.2).2
 ·exact j1j.2
theorem y5c {l:Lay} (hk:z9a l) {i:Nat} (hi:i < l.sgs.length) {x:List UInt8} (h:x∈(z4h l i).map Rou.name):∃ b,x=y82 l i++45::b:=by
 unfold z4h at h;split at h
 ·obtain ⟨r,h1,n,rfl,-,-⟩:=y0e _ _ _ h;obtain ⟨p,-,rfl⟩:=List.mem_map.1 h1;obtain ⟨b,h2,-⟩:=y1y hk hi p;rw[h2];unfold j2p;split
  ·exact ⟨b,rfl⟩
  ·exact ⟨b++46::Lib.itoa ((n+1:Nat):Int),by rw[List.append_assoc,List.cons_append]⟩
 ·cases h
theorem x0p {l:Lay} (hk:z9a l) {i:Nat} (hi:i < l.sgs.length) (hl:(z4h l i).length≤50000):((z4h l i).map Rou.name).Nodup:=by
 unfold z4h at hl ⊢;split
 ·rename_i e he;rw[he] at hl;simp only at hl;have hlen:∀ (t:List Rou) (seen:List (List UInt8)),(z1l seen t).length=t.length:=by
   intro t
   induction t with
   | nil=>intro _;rfl
   | cons r t ih=>intro _;simp[z1l,ih]
  rw[hlen] at hl;refine y7q _ _ (fun r hr=>?_) (by simpa using hl);obtain ⟨p,-,rfl⟩:=List.mem_map.1 hr;obtain ⟨b,h2,h3⟩:=y1y hk hi p;rw[h2];intro hm;rcases List.mem_append.1 hm with h4 | h4
  ·exact (y4h hk (Int.natCast_nonneg i) (by omega)).2 h4
  ·rcases List.mem_cons.1 h4 with h4 | h4
   ·exact absurd h4 (by decide)
   ·exact h3 h4
 ·simp
theorem x2f {l:Lay} (hk:z9a l) (hl:(y1g l).length≤50000):((y1g l).map Rou.name).Nodup:=by
 have key:∀ n:Nat,n≤l.sgs.length→((List.range n).flatMap fun (i:Nat)=>z4h l (i:Int)).length≤50000→(((List.range n).flatMap fun (i:Nat)=>z4h l (i:Int)).map Rou.name).Nodup:=by
  intro n
  induction n with
  | zero=>intro _ _;simp
  | succ n ih=>
   intro hn hlen;rw[List.range_succ,List.flatMap_append] at hlen ⊢;simp only[List.flatMap_cons,List.flatMap_nil,List.append_nil,qL] at hlen ⊢;rw[List.map_append,List.nodup_append];refine ⟨ih (by omega) (by omega),x0p hk (by omega) (by omega),fun a ha b hb e=>?_⟩;subst e;obtain ⟨r,hr,rfl⟩:=List.mem_map.1 ha;obtain ⟨i,hi,hr⟩:=List.mem_flatMap.1 hr;have hi:=List.mem_range.1 hi;obtain ⟨b1,h1⟩:=y5c hk (by omega) (List.mem_map.2 ⟨r,hr,rfl⟩);obtain ⟨b2,h2⟩:=y5c hk (by omega) hb;rw[h1] at h2;have h3:=(y9r (y4h hk (Int.natCast_nonneg i) (by omega)).1 (y4h hk (Int.natCast_nonneg n) (by omega)).1 h2).1;rw[(j7c (by omega)).2,(j7c (by omega)).2] at h3;have h4:=List.pairwise_iff_getElem.1 hk.nm i n (by simp;omega) (by simp;omega) hi;rw[List.getElem_map,List.getElem_map] at h4;exact h4 h3
 exact key _ nL hl
structure OvK (l:Lay) (r:Rou):Prop where
 way:y1v l r.over
 far:∀ s∈r.over,z0d l s.el∉r.secs
 opts:r.opts=z1a l r.over
 osecs:r.osecs=z0y l r.over
theorem j6r {l:Lay} {secs:List Int} {ovl:Int}:∀ (n:Nat) (over:List Stp) (e:Option z0o),y1v l over→(∀ s∈over,z0d l s.el∉secs)→y1v l (ovF l secs ovl n over e)∧(∀ s∈ovF l secs ovl n over e,z0d l s.el∉secs)∧(ovF l secs ovl n over e).length≤over.length+n:=by
 intro n
 induction n with
 | zero=>intro over e h1 h2;exact ⟨h1,h2,nL⟩
 | succ n ih=>
  intro over e h1 h2
  cases e with
  | none=>exact ⟨h1,h2,by unfold ovF;omega⟩
  | some e=>
   unfold ovF;split
   ·split
    ·exact ⟨h1,h2,by omega⟩
    ·rename_i hc;split
     ·exact ⟨h1,h2,by omega⟩
     ·rename_i s t hb;have hs:=j05 (l:=l) (e:=e) (s:=s) (by rw[hb];exact mCs);have hn:s.el∉over.map Stp.el:=by
       intro hm;obtain ⟨s',h3,h4⟩:=List.mem_map.1 hm;exact hc (Or.inl (List.any_eq_true.2 ⟨s',h3,by simp[h4,hs.2.1]⟩))
      obtain ⟨h3,h4,h5⟩:=ih (over++[s]) (z7m l s) (h1.snoc (hs.2.1▸hs.1) hs.2.2.2 hn) (fun x hx=>by
       rcases List.mem_append.1 hx with hx | hx
       ·exact h2 x hx
       ·obtain rfl:=List.mem_singleton.1 hx;rw[hs.2.1];exact fun h=>hc (Or.inr h))
      exact ⟨h3,h4,by simp only[qL,lCn,List.length_nil] at h5;omega⟩
   ·exact ⟨h1,h2,by omega⟩
theorem z9g {l:Lay} (r:Rou):OvK l (z1z l r)∧(z1z l r).over.length≤12:=by
 have h:y1v l (z4x l r)∧(∀ s∈z4x l r,z0d l s.el∉r.secs)∧(z4x l r).length≤12:=by
  unfold z4x;split
  ·have:=j6r (l:=l) (secs:=r.secs) (ovl:=j8z l r.ext) 12 [] (z03 l.jts (y4i l r.ext)) (y1v.nil l) (by simp);simpa using this
  ·exact ⟨y1v.nil l,by simp,by simp⟩
 exact ⟨⟨h.1,h.2.1,rfl,rfl⟩,h.2.2⟩
theorem j02.over {l:Lay} {r:Rou} (h:j02 l r):j02 l (z1z l r):=⟨h.ent,h.ext,h.way,h.n1,h.n2,h.pts,h.secs,h.app,h.len⟩
structure FlK (l:Lay) (r0 r:Rou):Prop where
 same:∃ f g p,r = { r0 with flk:=f,grd:=g,gap:=p }
 pos:∀ x∈r.flk,z2w l x.el=true∧z0s l x.el=2∧(x.pos=1∨x.pos=2)
 fn:x64 r.flk
 a1:∀ x∈r0.pts,∀ y∈r.flk,x.el=y.el→x.pos=y.pos
 a2:∀ x∈r0.opts,∀ y∈r.flk,x.el=y.el→x.pos=y.pos
theorem y4t {r:Rou} {f:z0o} {s:Stg} (h:y1k r f=some s):∃ p,(p=1∨p=2)∧s=⟨f.el,3 - p⟩∧(⟨f.el,p⟩:Stg)∉r.pts∧(⟨f.el,p⟩:Stg)∉r.opts∧(⟨f.el,p⟩:Stg)∉r.flk:=by
 unfold y1k at h;split at h
 ·rename_i p hp;split at h
  ·cases h
  ·rename_i hn;refine ⟨p,y9a hp,(sJ h).symm,?_,?_,?_⟩ <;> (intro hm;exact hn (by simp[y7r,hm]))
 ·cases h
theorem x53 {l:Lay} {r:Rou} {s:Stg} {g:Int}:∀ (n:Nat) (e:z0o),z3p l r n e=some (s,g)→g < 0→s≠zG→∃ f:z0o,z2w l f.el=true∧z0s l f.el=2∧y1k r f=some s:=by
 intro n
 induction n with
 | zero=>intro e h;simp[z3p] at h
 | succ n ih=>
  intro e h hg hs;unfold z3p at h;split at h
  ·simp only[qE,Prod.mk.injEq] at h;exact absurd h.1.symm hs
  ·rename_i f hf;split at h
   ·simp only[qE,Prod.mk.injEq] at h;omega
   ·split at h
    ·simp only[qE,Prod.mk.injEq] at h;exact absurd h.1.symm hs
    ·split at h
     ·cases h
     ·rename_i he;split at h
      ·rename_i hk;rw[Option.map_eq_some_iff] at h;obtain ⟨s',h1,h2⟩:=h;simp only[Prod.mk.injEq] at h2;exact ⟨f,by simpa using he,hk,h2.1▸h1⟩
      ·split at h
       ·cases h
       ·exact ih _ h hg hs
theorem j1l {l:Lay} {r0 r:Rou} (hp0:∀ x∈r0.pts,x.pos=1∨x.pos=2) (hp1:∀ x∈r0.opts,x.pos=1∨x.pos=2) (h:FlK l r0 r) (e:z0o):FlK l r0 (z90 l r e):=by
 obtain ⟨f,g,p,hr⟩:=h.same;have hpts:r.pts=r0.pts:=by rw[hr]
 have hopts:r.opts=r0.opts:=by rw[hr]
 unfold z90;split
 ·exact ⟨⟨f,g,p++[e],by rw[hr]⟩,h.pos,h.fn,h.a1,h.a2⟩
 ·rename_i s q hq;split
  ·exact ⟨⟨f,g++[q],p,by rw[hr]⟩,h.pos,h.fn,h.a1,h.a2⟩
  ·rename_i hq0;split
   ·exact h
   ·rename_i hs;obtain ⟨x,hx1,hx2,hx3⟩:=x53 4 e hq (by omega) hs;obtain ⟨k,hk1,rfl,hk2,hk3,hk4⟩:=y4t hx3;have hold:∀ {L:List Stg},(⟨x.el,k⟩:Stg)∉L→(∀ y∈L,y.pos=1∨y.pos=2)→∀ y∈L,y.el=x.el→y.pos=3 - k:=by
     intro L hn hL y hy hye;have h1:=hL y hy;have h2:y.pos≠k:=fun e'=>hn (by rw[←hye,←e'];exact hy)
     omega
    refine ⟨⟨f++[⟨x.el,3 - k⟩],g,p,by rw[hr]⟩,fun y hy=>?_,fun y hy z hz hyz=>?_,fun y hy z hz hyz=>?_,fun y hy z hz hyz=>?_⟩
    ·rcases List.mem_append.1 hy with hy | hy
     ·exact h.pos y hy
     ·obtain rfl:=List.mem_singleton.1 hy;exact ⟨hx1,hx2,by simp only;omega⟩
    ·rcases List.mem_append.1 hy with hy | hy <;> rcases List.mem_append.1 hz with hz | hz
     ·exact h.fn y hy z hz hyz
     ·obtain rfl:=List.mem_singleton.1 hz;exact hold hk4 (fun y hy=>(h.pos y hy).2.2) y hy hyz
     ·obtain rfl:=List.mem_singleton.1 hy;exact (hold hk4 (fun y hy=>(h.pos y hy).2.2) z hz hyz.symm).symm
     ·obtain rfl:=List.mem_singleton.1 hy;obtain rfl:=List.mem_singleton.1 hz;rfl
    ·rcases List.mem_append.1 hz with hz | hz
     ·exact h.a1 y hy z hz hyz
     ·obtain rfl:=List.mem_singleton.1 hz;exact hold (hpts▸hk2) hp0 y hy hyz
    ·rcases List.mem_append.1 hz with hz | hz
     ·exact h.a2 y hy z hz hyz
     ·obtain rfl:=List.mem_singleton.1 hz;exact hold (hopts▸hk3) hp1 y hy hyz
theorem j1m {l:Lay} {r:Rou} (hp0:∀ x∈r.pts,x.pos=1∨x.pos=2) (hp1:∀ x∈r.opts,x.pos=1∨x.pos=2):FlK l r (y2f l r):=by
 have key:∀ (es:List z0o) (r':Rou),FlK l r r'→FlK l r (es.foldl (z90 l) r'):=by
  intro es
  induction es with
  | nil=>intro r' h;exact h
  | cons e t ih=>intro r' h;exact ih _ (j1l hp0 hp1 h e)
 exact key _ _ ⟨⟨[],[],[],rfl⟩,by simp,by intro x hx;simp at hx,by simp,by simp⟩
theorem y9p {l:Lay} {p:List Stp} (h:y1v l p):(z1a l p).Pairwise (fun a b=>a.el < b.el)∧∀ x∈z1a l p,z2w l x.el=true∧z0s l x.el=2∧(x.pos=1∨x.pos=2):=by
 refine ⟨y68 (x5k h.nd),fun x hx=>?_⟩;obtain ⟨s,h1,h2⟩:=y0t.1 hx;obtain ⟨h3,h4,h5,h6⟩:=z5y h2;rw[h3];exact ⟨h5,h4,h6⟩
theorem z5f {l:Lay} {i:Int}:i∈z1m l↔z2w l i=true∧z0s l i=2:=by
 unfold z1m;rw[List.mem_filter,z4k];simp only[List.mem_map,mRg,dET];constructor
 ·rintro ⟨⟨k,h1,rfl⟩,h2⟩;exact ⟨by omega,h2⟩
 ·rintro ⟨h1,h2⟩;exact ⟨⟨i.toNat,by omega,by omega⟩,h2⟩
theorem y7x (l:Lay):(z1m l).Pairwise fun a b=>a < b:=by
 refine List.Pairwise.filter _ ?_;rw[List.pairwise_map];exact List.pairwise_lt_range.imp fun h=>by omega
theorem y0j {l:Lay} (hk:z9a l):(z1m l).length≤32:=by
 have:=List.length_filter_le (fun i:Int=>decide (z0s l i=2)) ((List.range l.els.length).map fun (i:Nat)=>(i:Int));simp only[List.length_map,List.length_range] at this;have:=hk.nl;unfold z1m;omega
structure RowK (l:Lay) (r:Rou):Prop where
 r0:j02 l r
 sec:∀ n∈r.secs++r.osecs,0≤n∧n < l.secs.length
 nd:(r.secs++r.osecs).Nodup
 ne:r.secs≠[]
 s1:r.pts.Pairwise fun a b=>a.el < b.el
 s2:r.opts.Pairwise fun a b=>a.el < b.el
 s3:r.flk.Pairwise fun a b=>a.el < b.el
 k1:∀ x∈r.pts++r.opts++r.flk,z2w l x.el=true∧z0s l x.el=2∧(x.pos=1∨x.pos=2)
 a1:∀ x∈r.pts,∀ y∈r.opts,x.el=y.el→x.pos=y.pos
 a2:∀ x∈r.pts,∀ y∈r.flk,x.el=y.el→x.pos=y.pos
 a3:∀ x∈r.opts,∀ y∈r.flk,x.el=y.el→x.pos=y.pos
theorem j7a {l:Lay} (hk:z9a l) {r:Rou} (h:j02 l r):RowK l (z8z l (z1z l r)):=by
 have h1:=h.over;obtain ⟨ho,ho2⟩:=z9g (l:=l) r;generalize z1z l r=q at *;have e1:=y9p h1.way;have e2:=y9p ho.way;rw[←h1.pts] at e1;rw[←ho.opts] at e2;have hf:=j1m (l:=l) (r:=q) (fun x hx=>(e1.2 x hx).2.2) (fun x hx=>(e2.2 x hx).2.2);obtain ⟨f,g,p,hr⟩:=hf.same;have es:∀ x∈q.secs,∃ s∈q.path,z2w l s.el=true∧z0d l s.el=x:=fun x hx=>z7t.1 (h1.secs▸hx)
 have eo:∀ x∈q.osecs,∃ s∈q.over,z2w l s.el=true∧z0d l s.el=x:=fun x hx=>z7t.1 (ho.osecs▸hx)
 have hfl:(z8z l q).flk=z0v (z4l ltG (y2f l q).flk):=rfl;have hq:z8z l q = { q with flk:=z0v (z4l ltG (y2f l q).flk),grd:=z0v (z4l ltI (y2f l q).grd),gap:=(y2f l q).gap }:=by
  unfold z8z;rw[hr]
 rw[hq];refine ⟨⟨h1.ent,h1.ext,h1.way,h1.n1,h1.n2,h1.pts,h1.secs,h1.app,h1.len⟩,fun n hn=>?_,?_,?_,e1.1,e2.1,y68 hf.fn,fun x hx=>?_,fun x hx y hy he=>?_,fun x hx y hy he=>?_,fun x hx y hy he=>?_⟩
 ·rcases List.mem_append.1 hn with hn | hn
  ·obtain ⟨s,-,h3,rfl⟩:=es n hn;exact (hk.el _ h3).2.2.2
  ·obtain ⟨s,-,h3,rfl⟩:=eo n hn;exact (hk.el _ h3).2.2.2
 ·rw[List.nodup_append];refine ⟨by simp only[h1.secs];exact y0q _ _,by simp only[ho.osecs];exact y0q _ _,fun a ha b hb e=>?_⟩;subst e;obtain ⟨s,h3,-,h4⟩:=eo a hb;exact ho.far s h3 (h4▸ha)
 ·intro he;have:q.path≠[]:=fun e=>by have:=h1.n1;rw[e] at this;simp at this
  obtain ⟨s,t,hst⟩:=List.exists_cons_of_ne_nil this;have hs:=h1.way.st s (by rw[hst];exact mCs);have:z0d l s.el∈q.secs:=by rw[h1.secs];exact z7t.2 ⟨s,by rw[hst];exact mCs,hs.1,rfl⟩
  simp only at he;rw[he] at this;cases this
 ·rcases List.mem_append.1 hx with hx | hx
  ·rcases List.mem_append.1 hx with hx | hx
   ·exact e1.2 x hx
   ·exact e2.2 x hx
  ·exact hf.pos x (z4e.1 hx)
 ·exfalso;simp only at hx hy;rw[h1.pts] at hx;rw[ho.opts] at hy;obtain ⟨s,h3,h4⟩:=y0t.1 hx;obtain ⟨s',h5,h6⟩:=y0t.1 hy;have h7:=z5y h4;have h8:=z5y h6;have h9:s.el=s'.el:=by rw[←h7.1,←h8.1,he]
  refine ho.far s' h5 ?_;rw[←h9,h1.secs];exact z7t.2 ⟨s,h3,h7.2.2.1,rfl⟩
 ·exact hf.a1 x hx y (z4e.1 hy) he
 ·exact hf.a2 x hx y (z4e.1 hy) he
theorem j7m {l:Lay} (hc:z8p l=0) (hl:(y1g l).length≤48):z4y (z5i l)=0∧∀ r∈(z5i l).rts,RowK l r:=by
 have hk:=j7x hc;have hrow:∀ r∈(z5i l).rts,RowK l r:=by
  intro r hr;obtain ⟨r0,h1,rfl⟩:=List.mem_map.1 hr;exact j7a hk (j0o hk h1).1
 have hnl:=hk.nl;have hns:=hk.ns;have hng:=hk.ng;have hpl:=y0j hk;have hpt:∀ x∈(z5i l).pts,z2w l x=true∧z0s l x=2:=fun x hx=>z5f.1 hx
 have hst:∀ (g:List Stg),g.Pairwise (fun a b=>a.el < b.el)→(∀ x∈g,z2w l x.el=true∧z0s l x.el=2∧(x.pos=1∨x.pos=2))→y0z (z5i l) g=true:=fun g h1 h2=>j4a h1 fun x hx=>⟨z5f.2 ⟨(h2 x hx).1,(h2 x hx).2.1⟩,(h2 x hx).2.2⟩
 refine ⟨y8f ?_ ?_ ?_ ?_ ?_ ?_,hrow⟩
 ·unfold y5i;simp only[uT,dET,z1f];refine ⟨by simp only[z5i,List.length_map];omega,by simp only[z5i];omega,by simp only[z5i];omega,by simp only[z5i];omega⟩
 ·unfold y4d;simp only[uT,dET,laT];refine ⟨by simp[z5i],fun i hi=>?_⟩;have hi:i < (z5i l).pts.length:=List.mem_range.1 hi;have hi':i < (z1m l).length:=hi;unfold ptB;have e1:(z5i l).pts.getD i 0=(z1m l)[i]:=by simp[List.getD,z5i,hi']
  have e2:(z5i l).homes.getD i 0=z0d l (z1m l)[i]:=by simp[List.getD,z5i,hi']
  rw[e1,e2];have hx:=z5f.1 (uE hi');have hxe:=z4k.1 hx.1;have hse:=(hk.el _ hx.1).2.2.2;simp only[uT,Bool.or_eq_true,dET,z1f];refine ⟨hxe.1,?_,by simp only[z5i];omega⟩;by_cases h0:i=0
  ·exact Or.inl h0
  ·right;have e3:(z5i l).pts.getD (i - 1) 0=(z1m l)[i - 1]:=by simp[List.getD,z5i,show i - 1 < (z1m l).length by omega]
   rw[e3];exact List.pairwise_iff_getElem.1 (y7x l) (i - 1) i (by omega) hi' (by omega)
 ·rw[laT];intro r hr;have h:=hrow r hr;unfold z7r x5m;simp only[uT,dET,laT,z1f];have h1:=h.r0.ent;have h2:=h.r0.ext;have h3:=h.r0.app;refine ⟨by simp only[z5i];omega,by simp only[z5i];omega,⟨h.r0.n1,h.r0.n2⟩,⟨h.ne,fun n hn=>?_,h.nd⟩,by simp only[z5i];omega,h.r0.len.1⟩;have:=h.sec n hn;simp only[z5i];omega
 ·rw[laT];intro r hr;have h:=hrow r hr;unfold setB;simp only[uT];exact ⟨hst _ h.s1 fun x hx=>h.k1 x (by simp[hx]),hst _ h.s2 fun x hx=>h.k1 x (by simp[hx]),hst _ h.s3 fun x hx=>h.k1 x (by simp[hx])⟩
 ·rw[laT];intro r hr;have h:=hrow r hr;unfold agB;simp only[uT,y36];exact ⟨h.a1,h.a2,h.a3⟩
 ·have:(z5i l).rts.map Rou.name=(y1g l).map Rou.name:=by
   simp only[z5i,List.map_map];refine List.map_congr_left fun r _=>?_
   have hf:∀ (es:List z0o) (r':Rou),(es.foldl (z90 l) r').name=r'.name:=by
    intro es
    induction es with
    | nil=>intro r';rfl
    | cons e t ih=>
     intro r';rw[List.foldl_cons,ih];unfold z90;split
     ·rfl
     ·split
      ·rfl
      ·split <;> rfl
   simp only[Function.comp,z8z,y2f];rw[hf];rfl
  rw[this];exact x2f hk (by omega)
def y7n:Lay:=⟨[108,105,110,101],[[97],[98],[99]],[⟨[97],1,20000,0,1000,0,0⟩,⟨[98],1,20000,0,1000,0,1⟩,⟨[99],1,20000,0,1000,0,2⟩],[⟨⟨0,1⟩,⟨1,0⟩⟩,⟨⟨1,1⟩,⟨2,0⟩⟩],[⟨[115,49],⟨0,1⟩,0⟩,⟨[115,50],⟨1,1⟩,0⟩],[]⟩
def y3y:Inp:=⟨[false,false,false],[],[false,false,false],[false,false],[],[0],[]⟩
def z92:Tab:=⟨[⟨[115,49,45,115,50],0,1,0,20000,[⟨1,0,1⟩],[],[1],[],[],[],[],[],[]⟩,⟨[115,50,45,101,110,100],1,-1,1,20000,[⟨2,0,1⟩],[],[2],[],[],[],[],[],[]⟩],[],[],3,2⟩
theorem x8k:x0b y7n=(z92,0):=by decide +kernel
theorem x46:z1s z92 (x26 z92) y3y=⟨[⟨1,0,0⟩,⟨0,0,0⟩],[]⟩:=by decide +kernel
theorem x47:z1s z92 ⟨[⟨1,0,0⟩,⟨0,0,0⟩],[]⟩ y3y=⟨[⟨2,0,0⟩,⟨0,0,0⟩],[]⟩:=by decide +kernel
theorem j2h:z2d z92 ⟨[⟨2,0,0⟩,⟨0,0,0⟩],[]⟩=[true,false]:=by decide +kernel
theorem j2g:z1p (z0r z92 0) (z1d ⟨[⟨2,0,0⟩,⟨0,0,0⟩],[]⟩ 0)=[1]:=by decide +kernel
end Go.Proofs.YtpenlfedkacglaaGreatDoor
namespace Go.Proofs.YtpenlfedkacglaaGreatDoor
open Go.RowKit
attribute [local go_sem] z05 z07 z01 z02
attribute [-go_sem] run_equalIn_agg loadCellsFrom
theorem y9f {w:World} (E:EnvR w):Sem.run Tryz.prog (loadCellsFrom ⟨0,0,none⟩ 0 40 #[]) w=.ok (y7u.map (Value.int .i64)).toArray w:=
 run_loadCellsFrom_list _ _ _ _ 40 rfl fun j v hj=>by
  rw[List.getElem?_map,Option.map_eq_some_iff] at hj;obtain ⟨x,hx,rfl⟩:=hj;rw[Addr.add_lit,Nat.zero_add];exact E.pas j x hx
def j7y (p:Int × Int × Int × Int):Value:=.agg #[.int .i64 p.1,.int .i64 p.2.1,.int .i64 p.2.2.1,.int .i64 p.2.2.2]
theorem y5z (W:World):∀ (k:Nat) (p:Int × Int × Int × Int),z2i[k]? = some p→(Instr.index 189 (.agg (y7u.map (Value.int .i64)).toArray) (.int .i64 k)).run Tryz.prog W=.ok (j7y p) W:=by
 intro k p h;have hk:k < 10:=(List.getElem?_eq_some_iff.1 h).1;have:k=0∨k=1∨k=2∨k=3∨k=4∨k=5∨k=6∨k=7∨k=8∨k=9:=by omega
 rcases this with rfl | rfl | rfl | rfl | rfl | rfl | rfl | rfl | rfl | rfl;all_goals (
  simp only[z2i,List.getElem?_cons_zero,List.getElem?_cons_succ,qE] at h;subst h;simp[Instr.index,run_underlying Tryz.underlying189,asIntOf,Tryz.sizeOf188,go_sem,y7u,j7y])
def x7p (k i o:Int) (p:Int × Int × Int × Int):Bool:=decide (p.1=k) && (decide (p.2.1=i) && decide (p.2.2.1=o))
theorem j2k {k i o:Int} {n:Nat} {p:Int × Int × Int × Int} (hp:z2i[n]? = some p) (h:(z2i.take n).all (fun p=>!x7p k i o p)=true) (hh:x7p k i o p=true):z2a k i o=some p.2.2.2:=by
 have hn:=(List.getElem?_eq_some_iff.1 hp).1;have he:z2i=z2i.take n++p::z2i.drop (n+1):=by
  rw[gqE hn] at hp;rw[←sJ hp,List.getElem_cons_drop,List.take_append_drop]
 unfold z2a;rw[he,List.find?_append];have:(z2i.take n).find? (fun p=>decide (p.1=k) && (decide (p.2.1=i) && decide (p.2.2.1=o)))=none:=by
  rw[List.find?_eq_none];intro x hx;have h9:=List.all_eq_true.1 h x hx;rw[Bool.not_eq_true'] at h9;exact Bool.not_eq_true _▸h9
 rw[this];unfold x7p at hh;rw[List.find?_cons,hh];rfl
theorem j2l {k i o:Int} (h:(z2i.take 10).all (fun p=>!x7p k i o p)=true):z2a k i o=none:=by
 unfold z2a;rw[Option.map_eq_none_iff,List.find?_eq_none];intro x hx;have h9:=List.all_eq_true.1 h x hx;rw[Bool.not_eq_true'] at h9;exact Bool.not_eq_true _▸h9
theorem x7q {f:Int × Int × Int × Int→Bool} {n:Nat} {p:Int × Int × Int × Int} (hp:z2i[n]? = some p) (h:(z2i.take n).all f=true) (hf:f p=true):(z2i.take (n+1)).all f=true:=by
 have hn:=(List.getElem?_eq_some_iff.1 hp).1;rw[gqE hn] at hp;rw[tqS hn,List.all_append,h,sJ hp];simp[hf]
theorem y9m {k i o:Int} {r:Option Int} {a:Int} {b:Bool} (h:z2a k i o=r) (ha:a=r.getD 0) (hb:b=r.isSome):Ending.returned (.tuple #[.int .i64 a,.bool b])=.returned (.tuple #[.int .i64 ((z2a k i o).getD 0),.bool (z2a k i o).isSome]):=by rw[h,ha,hb]
theorem y3z (kd i o:Int) (w:World) (E:EnvR w):Calls Tryz.prog 84 #[.int .i64 kd,.int .i64 i,.int .i64 o] w fun e w'=>e=.returned (.tuple #[.int .i64 ((z2a kd i o).getD 0),.bool (z2a kd i o).isSome])∧Below w.heap.size w w':=by
 have hl:=y9f E;have hix:=hE y5z;generalize y7u.map (Value.int .i64)=L at *;clear E;go_enter Tryz.func84,Tryz.ntmps84
 go_wp2_with fail;clear hl;go_loopw [11] (fun n wr=>∃ k:Nat,k≤10∧n=.int .i64 k∧Below w.heap.size w wr∧Hid ((z2i.take k).all (fun p=>!x7p kd i o p)=true)) (fun n _=>10 - (intOf n).toNat)
 case atStart=>exact ⟨0,by omega,rfl,bQ,hE rfl⟩
 case round=>
  obtain ⟨k,hk,rfl,hb,HK⟩:=hrel;by_cases hlt:k < 10
  ·have hki:(k:Int) < 10:=by omega
   obtain ⟨p,hp⟩:∃ p,z2i[k]? = some p:=⟨_,gqE hlt⟩
   have hx:=fun W=>hix.out W k p hp
   have HN:=hE fun h=>j2k (k:=kd) (i:=i) (o:=o) hp HK.out h
   have HF:=hE fun h=>x7q hp HK.out h
   obtain ⟨a,b,c,d⟩:=p;unfold j7y at hx;dsimp only at hx;clear hp hix;have hsz:=hb.size;by_cases h1:a=kd;case neg=>
    have t1:(a==kd)=false:=by simpa using h1
    have HX:=hE (HF.out (by simp[x7p,h1]));clear HN HF HK h1;go_wp2_with fail
    go_roundw
    case rel=>exact ⟨k+1,by omega,by go_num,blz,HX⟩
    case measure=>simp[intOf];omega
   case pos=>
    have t1:(a==kd)=true:=by simpa using h1
    by_cases h2:b=i;case neg=>
     have t2:(b==i)=false:=by simpa using h2
     have HX:=hE (HF.out (by simp[x7p,h2]));clear HN HF HK h1 h2;go_wp2_with fail
     go_roundw
     case rel=>exact ⟨k+1,by omega,by go_num,blz,HX⟩
     case measure=>simp[intOf];omega
    case pos=>
     have t2:(b==i)=true:=by simpa using h2
     by_cases h3:c=o;case neg=>
      have t3:(c==o)=false:=by simpa using h3
      have HX:=hE (HF.out (by simp[x7p,h3]));clear HN HF HK h1 h2 h3;go_wp2_with fail
      go_roundw
      case rel=>exact ⟨k+1,by omega,by go_num,blz,HX⟩
      case measure=>simp[intOf];omega
     case pos=>
      have t3:(c==o)=true:=by simpa using h3
      have HX:=hE (HN.out (by simp[x7p,h1,h2,h3]));clear HN HF HK h1 h2 h3;go_wp2_with fail
      exact bodyPost_ret (v:=.tuple #[.int .i64 d,.bool true]) (by simp[results,Tryz.results84,go_sem]) rfl ⟨y9m HX.out rfl rfl,blz⟩
  ·have HX:=hE (j2l (k:=kd) (i:=i) (o:=o) (by rw[show (10:Nat)=k by omega];exact HK.out));clear HK hix;go_wp2_with fail
   exact bodyPost_ret (v:=.tuple #[.int .i64 0,.bool false]) (by simp[results,Tryz.results84,go_sem]) rfl ⟨y9m HX.out rfl rfl,blz⟩
def y35 {α:Type} (c:Cod α) (T:TypeId) (w:World) (l:List α) (e:Ending) (w':World):Prop:=
 ∃ A cap,e=.returned (.slice A l.length cap)∧z09 c w' w.heap.size T (.slice A l.length cap) l 0∧Below w.heap.size w w'
theorem z0x {α:Type} {c:Cod α} {T:TypeId} {w w':World} {l l':List α} {e:Ending} {v:Value} (hl:l=l') (he:e=.returned v) (ho:z09 c w' w.heap.size T v l 0) (hb:Below w.heap.size w w'):y35 c T w l' e w':=by
 subst hl;obtain ⟨A,cap,rfl⟩:=ho.form;exact ⟨A,cap,he,ho,hb⟩
def lgK (kd i:Int) (n:Nat):List Int:=((z2i.take n).filter fun p=>decide (p.1=kd) && decide (p.2.1=i)).map fun p=>p.2.2.1
theorem x3y (kd i:Int) (n:Nat):(lgK kd i n).length≤n:=by
 unfold lgK;rw[List.length_map];exact nR (List.length_filter_le _ _) (by simp;omega)
theorem j2e {kd i:Int} {n:Nat} {p:Int × Int × Int × Int} (hp:z2i[n]? = some p) (h1:p.1=kd) (h2:p.2.1=i):lgK kd i (n+1)=lgK kd i n++[p.2.2.1]:=by
 have hn:=(List.getElem?_eq_some_iff.1 hp).1;rw[gqE hn] at hp;unfold lgK;rw[tqS hn,sJ hp];simp[h1,h2]
theorem j2d {kd i:Int} {n:Nat} {p:Int × Int × Int × Int} (hp:z2i[n]? = some p) (h1:¬(p.1=kd∧p.2.1=i)):lgK kd i (n+1)=lgK kd i n:=by
 have hn:=(List.getElem?_eq_some_iff.1 hp).1;rw[gqE hn] at hp;unfold lgK;rw[tqS hn,sJ hp,List.filter_append];simp only[List.filter_cons,List.filter_nil];rw[if_neg (by simpa using h1),List.append_nil]
theorem j2x {n:Nat} {p:Int × Int × Int × Int} (hp:z2i[n]? = some p):z0p p.2.2.1:=by
 have hm:=List.mem_of_getElem? hp;have:∀ q∈z2i,0≤q.2.2.1∧q.2.2.1≤3:=by decide
 have:=this _ hm;exact ⟨by omega,by omega⟩
theorem y8v (kd i:Int) (w:World) (E:EnvR w):Calls Tryz.prog 125 #[.int .i64 kd,.int .i64 i] w (y35 cI 3 w (z6x kd i)):=by
 obtain ⟨i0,hi,hz0,hz1,hz2⟩:=info_parts z3f;have hl:=y9f E;have hix:=hE y5z;generalize y7u.map (Value.int .i64)=L at *;clear E;go_enter Tryz.func125,Tryz.ntmps125
 go_wp2_with fail;clear hl;go_loopw [5,9] (fun v n wr=>∃ k:Nat,k≤10∧n=.int .i64 k∧z09 cI wr w.heap.size 3 v (lgK kd i k) 0∧Below w.heap.size w wr) (fun _ n _=>10 - (intOf n).toNat)
 case atStart=>exact ⟨0,by omega,rfl,z09.nil _ _ _ _ nZ,bQ⟩
 case round=>
  obtain ⟨k,hk,rfl,hown,hb⟩:=hrel;have hsz:=hb.size;by_cases hlt:k < 10
  ·have hki:(k:Int) < 10:=by omega
   obtain ⟨p,hp⟩:∃ p,z2i[k]? = some p:=⟨_,gqE hlt⟩
   have hx:=fun W=>hix.out W k p hp
   have HY:=hE (j2e (kd:=kd) (i:=i) hp);have HN:=hE (j2d (kd:=kd) (i:=i) hp);have HI:=hE (j2x hp);have hll:=x3y kd i k;obtain ⟨a,b,c,d⟩:=p;unfold j7y at hx;dsimp only at hx;generalize lgK kd i k=ns at *;have hal:Below wr.heap.size wr (wr.alloc (.cells #[.int .i64 a,.int .i64 b,.int .i64 c,.int .i64 d] 188)):=bQ.alloc nL _;have hown1:=hown.now hal;have hb1:=z00 hb hsz hal;have hs1:=hb1.size;clear hp hix hal;by_cases h1:a=kd;case neg=>
    have t1:(a==kd)=false:=by simpa using h1
    have HX:=hE (HN.out (fun h=>h1 h.1));clear HN HY h1 hown hb hs1;go_wp2_with fail
    go_roundw
    case rel=>exact ⟨k+1,by omega,by go_num,by rw[HX.out];exact hown1,hb1⟩
    case measure=>simp[intOf];omega
   case pos=>
    have t1:(a==kd)=true:=by simpa using h1
    by_cases h2:b=i;case neg=>
     have t2:(b==i)=false:=by simpa using h2
     have HX:=hE (HN.out (fun h=>h2 h.2));clear HN HY h1 h2 hown hb hs1;go_wp2_with fail
     go_roundw
     case rel=>exact ⟨k+1,by omega,by go_num,by rw[HX.out];exact hown1,hb1⟩
     case measure=>simp[intOf];omega
    case pos=>
     have t2:(b==i)=true:=by simpa using h2
     have HX:=hE (HY.out h1 h2);clear HN HY h1 h2 hown hb;go_wp2_with (at_builtin;go_loud (refine z0h (c:=cI) _ rfl _ _ 31 rfl w.heap.size 3 i0 (.int .i64 0) 8 Tryz.underlying31 hi hz0 hz1 hz2 rfl (by decide) _ ns 0 rfl hown1 [.int .i64 c] c ⟨rfl,HI.out⟩ (by intro u hu;simp at hu;subst hu;rfl) _ (by first | rfl | simp[Act.eval]) (by first | omega | (simp;omega)) (by first | omega | (simp;omega)) (by first | omega | (simp;omega)) ?_);intro v' w3 hown3 hf3 hs3)
     go_roundw
     case rel=>exact ⟨k+1,by omega,by go_num,by rw[HX.out];exact hown3,hf3.keeps nL hs1 hb1⟩
     case measure=>simp[intOf];omega
  ·have HX:Hid (lgK kd i k=z6x kd i):=hE (by rw[show k=10 by omega];rfl);clear hix;obtain ⟨A',c',hv⟩:=hown.form;have HO:=hE hown;clear hown;subst hv;generalize lgK kd i k=ns at *;go_wp2_with fail
   go_ret;exact z0x HX.out rfl HO.out hb
end Go.Proofs.YtpenlfedkacglaaGreatDoor
