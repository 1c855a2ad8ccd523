import Derived.Test.YtpenlfedkacglaaGreatDoorL02
import Derived.Lib.AppendZeros
import Derived.StillTailTactics
set_option maxRecDepth 100000
set_option maxHeartbeats 40000000
set_option linter.all false
namespace Go.Proofs.YtpenlfedkacglaaGreatDoor
open Go.RowKit
open Go.Maps (Keyed IsMap)
section
variable {H:Type}
end
section
variable {P:Program} {k e:TypeId} {w w':World} {b n:Nat} {ks:List Lit}
end
section
variable {P:Program} (w:World) {ops:Array Oper} {rest:List Oper} {o:Oper} {a:Act} {Q:Exit→Act→World→Prop}
end
theorem laidOut:laidOutB Tryz.prog=true:=by kernel_rfl
theorem y53:Keyed Tryz.prog 90:=Keyed.of_law (deep_law_laid laidOut (m:=2) (by omega) (oDt (by kernel_rfl)) (by kernel_rfl) (by rw[Tryz.underlying90]))
def j08 (e:z0o):Value:=.agg #[.int .i64 e.el,.int .i64 e.sd]
def x65 (e:z0o):Prop:=z0p e.el∧z0p e.sd
def x7c (e:z0o):Lit:=.string (keyBytes [.int .i64 e.el,.int .i64 e.sd])
theorem wf_i64 {n:Int} (h:z0p n):(Lit.int .i64 n).wf=true:=by unfold z0p at h;simp[Lit.wf,IntKind.min,IntKind.max,IntKind.signed,IntKind.bits];omega
theorem x5w:∃ m,Tryz.prog.types.size=m+1:=Nat.exists_eq_add_one.2 (oDt (by kernel_rfl))
theorem x6t:Tryz.prog.cellsOf 3=1:=by kernel_rfl
theorem y8e:Tryz.prog.cellsOf 90=2:=by kernel_rfl
theorem j6e:Tryz.prog.keyType 90=true:=by kernel_rfl
theorem z8c (e:z0o) (h:x65 e):keyOf Tryz.prog 90 (j08 e)=some (x7c e):=by
 obtain ⟨m,hm⟩:=x5w;have h1:=wf_i64 h.1;have h2:=wf_i64 h.2;unfold keyOf;rw[Tryz.underlying90];have hf:(j08 e).formed Tryz.prog 90=true:=by simp[j08,Value.formed,Tryz.underlying90,y8e]
 simp only[j6e,hf,Bool.and_self,if_true];have h3:=Tryz.underlying3;have h4:∀ d,0 < d→Tryz.prog.keyLits d 3 [.int .i64 e.el]=some [.int .i64 e.el]:=fun d hd=>by
  obtain ⟨k,rfl⟩:=Nat.exists_eq_add_one.2 hd;simp[Program.keyLits,h3,h1]
 have h5:∀ d,0 < d→Tryz.prog.keyLits d 3 [.int .i64 e.sd]=some [.int .i64 e.sd]:=fun d hd=>by
  obtain ⟨k,rfl⟩:=Nat.exists_eq_add_one.2 hd;simp[Program.keyLits,h3,h2]
 unfold Program.keyLits;rw[Tryz.underlying90];simp[j08,Value.cells,y8e,x6t,h4,h5,x7c]
theorem x7d {a b:z0o} (ha:x65 a) (hb:x65 b) (h:x7c a=x7c b):a=b:=by
 have h1:=z8c a ha;rw[h] at h1;have:=y53.inj h1 (z8c b hb);simp[j08] at this;obtain ⟨x,y⟩:=a;obtain ⟨x',y'⟩:=b;simp at this;simp[this]
def j5q:Value→Option (DataW Unit × List MemPlace)
 | .agg cs=>match cs.toList with
  | [.int .i64 a,.int .i64 b]=>some (.agg [.lit (.int .i64 a),.lit (.int .i64 b)],[])
  | _=>none
 | _=>none
theorem x3a (e:z0o):j5q (j08 e)=some (.agg [.lit (.int .i64 e.el),.lit (.int .i64 e.sd)],[]):=rfl
theorem x7b {v:Value} {z:DataW Unit × List MemPlace} (h:j5q v=some z):∃ e:z0o,v=j08 e∧z=(.agg [.lit (.int .i64 e.el),.lit (.int .i64 e.sd)],[]):=by
 unfold j5q at h;split at h
 ·rename_i cs;split at h
  ·rename_i a b hc;simp only[qE] at h;have:cs=#[.int .i64 a,.int .i64 b]:=by
    apply Array.toList_inj.1;exact hc
   subst this;exact ⟨⟨a,b⟩,rfl,h.symm⟩
  ·cases h
 ·cases h
theorem j4j (w:World):(zeroValue 90).run Tryz.prog w=.ok (j08 ⟨0,0⟩) w:=by kernel_rfl
def z2f (w:World) (b n:Nat) (f:z0o→Option z0o):Prop:=∃ D,w.ownsMap (H:=Unit) Tryz.prog 90 j5q b n D∧IsMap D∧∀ e,x65 e→Maps.has D (x7c e)=(f e).isSome∧∀ g,f e=some g→∀ z,D.atKey (x7c e) z=.agg [.lit (.int .i64 g.el),.lit (.int .i64 g.sd)]
section
variable {w w':World} {b n:Nat} {f:z0o→Option z0o}
theorem z2f.made (w:World) (b:Nat) (hb:b=w.heap.size):z2f (w.alloc (.map #[] 0)) b 0 (fun _=>none):=by
 subst hb;exact ⟨_,World.ownsMap_made _ _ _ _,Maps.isMap_empty,fun e _=>⟨rfl,fun g h=>by cases h⟩⟩
theorem z2f.now (h:z2f w b n f) (hb:Below w.heap.size w w'):z2f w' b n f:=by
 obtain ⟨D,h1,h2⟩:=h;exact ⟨D,h1.kept (row:=none) ⟨hb.os,hb.tape,hb.output,hb.size,fun i hi _=>hb.block i hi⟩ (by simp),h2⟩
theorem z2f.alloc (h:z2f w b n f) (o:Obj):z2f (w.alloc o) b n f:=h.now (bQ.alloc nL o)
theorem z2f.drew (h:z2f w b n f):z2f w.drew b n f:=h
theorem z2f.lt (h:z2f w b n f):b < w.heap.size:=by obtain ⟨D,h1,_⟩:=h;exact h1.lt
theorem z2f.ext {f':z0o→Option z0o} (h:z2f w b n f) (he:∀ e,f e=f' e):z2f w b n f':=by
 rw[show f' = f from funext fun e=>(he e).symm];exact h
end
def upE (f:z0o→Option z0o) (a b:z0o):z0o→Option z0o:=fun e=>if e=a then some b else f e
section
variable (w:World) {ops:Array Oper} {rest:List Oper} {o:Oper} {a:Act} {Q:Exit→Act→World→Prop}
theorem z99 (hg:o.guard=none) (m x:Operand) (t:TypeId) (hop:o.op=Op.lookup t m x true) (ht:Tryz.prog.underlying t=some (.map 90 90))
  (b n:Nat) (f:z0o→Option z0o) (hm:a.eval m=.map (some b)) (hown:z2f w b n f) (e:z0o) (he:x65 e) (hx:a.eval x=.agg #[.int .i64 e.el,.int .i64 e.sd])
  (hK:wpList Tryz.prog ops Q rest (a.put o.dst (.tuple #[.agg #[.int .i64 ((f e).getD ⟨0,0⟩).el,.int .i64 ((f e).getD ⟨0,0⟩).sd],.bool (f e).isSome])) w):wpList Tryz.prog ops Q (o::rest) a w:=by
 obtain ⟨D,h1,h2,h3⟩:=hown;obtain ⟨h4,h5⟩:=h3 e he;refine wpList_lookup_own_ok w hg m x t hop 90 90 y53 ht j5q (j4j w) _ _ (x3a ⟨0,0⟩) b n D hm h1 _ (x7c e) hx (z8c e he) fun v ps hv=>?_
 obtain ⟨g,rfl,hg2⟩:=x7b hv;rw[h4];have:g=(f e).getD ⟨0,0⟩:=by
  cases hf:f e with
  | none=>
   rw[hf] at h4;rw[Maps.atKey_of_not_has (by simpa using h4)] at hg2;obtain ⟨x,y⟩:=g;simp at hg2;obtain ⟨⟨rfl,rfl⟩,_⟩:=hg2
   rfl
  | some g'=>
   rw[h5 g' hf] at hg2;obtain ⟨x,y⟩:=g;obtain ⟨x',y'⟩:=g';simp at hg2;obtain ⟨⟨rfl,rfl⟩,_⟩:=hg2;rfl
 rw[←this] at hK;exact hK
end
end Go.Proofs.YtpenlfedkacglaaGreatDoor
namespace Go.Proofs.YtpenlfedkacglaaGreatDoor
open Go.RowKit
def j9l (x:Elt):List Value:=[.string (bs x.name),.int .i64 x.kind,.int .i64 x.len,.int .i64 x.grd,.int .i64 x.spd,.int .i64 x.slow,.int .i64 x.sec]
def j9k (x:Elt):Prop:=x.name.length≤maxLen∧z0p x.kind∧z0p x.len∧z0p x.grd∧z0p x.spd∧z0p x.slow∧z0p x.sec
def cE:Cod Elt where
 size:=7
 rd:=fun _ _ cs x=>cs=j9l x∧j9k x
 fit:=fun _=>True
 len:=fun h=>by rw[h.1];rfl
 keep:=fun h _=>h
 more:=fun h _=>h
def k06 (x:Jnt):List Value:=[.int .i64 x.a.el,.int .i64 x.a.sd,.int .i64 x.b.el,.int .i64 x.b.sd]
def j9m (x:Jnt):Prop:=x65 x.a∧x65 x.b
def cJ:Cod Jnt where
 size:=4
 rd:=fun _ _ cs x=>cs=k06 x∧j9m x
 fit:=fun _=>True
 len:=fun h=>by rw[h.1];rfl
 keep:=fun h _=>h
 more:=fun h _=>h
def k0d (x:Sgn):List Value:=[.string (bs x.name),.int .i64 x.pos.el,.int .i64 x.pos.sd,.int .i64 x.ovl]
def j9a (x:Sgn):Prop:=x.name.length≤maxLen∧x65 x.pos∧z0p x.ovl
def cSg:Cod Sgn where
 size:=4
 rd:=fun _ _ cs x=>cs=k0d x∧j9a x
 fit:=fun _=>True
 len:=fun h=>by rw[h.1];rfl
 keep:=fun h _=>h
 more:=fun h _=>h
def k00 (x:Bls):List Value:=[.int .i64 x.id,.int .i64 x.el,.int .i64 x.off]
def j9i (x:Bls):Prop:=z0p x.id∧z0p x.el∧z0p x.off
def cBl:Cod Bls where
 size:=3
 rd:=fun _ _ cs x=>cs=k00 x∧j9i x
 fit:=fun _=>True
 len:=fun h=>by rw[h.1];rfl
 keep:=fun h _=>h
 more:=fun h _=>h
section
variable {w:World} {S:Nat→Prop} {A:Option Addr}
theorem RdS.elE {l:List Elt} (h:RdS cE w S A l) {i:Nat} (hi:i < l.length) :
  ∃ b off,A=some ⟨b,off,none⟩∧S b∧j9k l[i]∧w.cell? ⟨b,off+i*7,none⟩=some (.string (bs l[i].name))∧w.cell? ⟨b,off+i*7+1,none⟩=some (.int .i64 l[i].kind)∧w.cell? ⟨b,off+i*7+2,none⟩=some (.int .i64 l[i].len)∧w.cell? ⟨b,off+i*7+3,none⟩=some (.int .i64 l[i].grd)∧w.cell? ⟨b,off+i*7+4,none⟩=some (.int .i64 l[i].spd)∧w.cell? ⟨b,off+i*7+5,none⟩=some (.int .i64 l[i].slow)∧w.cell? ⟨b,off+i*7+6,none⟩=some (.int .i64 l[i].sec):=by
 obtain ⟨b,off,h1,h2,h3⟩:=h (by omega);obtain ⟨ys,⟨rfl,h4⟩,h5⟩:=h3 i l[i] (gqE hi);exact ⟨b,off,h1,h2,h4,h5 0 _ rfl,h5 1 _ rfl,h5 2 _ rfl,h5 3 _ rfl,h5 4 _ rfl,h5 5 _ rfl,h5 6 _ rfl⟩
theorem RdS.elJ {l:List Jnt} (h:RdS cJ w S A l) {i:Nat} (hi:i < l.length) :
  ∃ b off,A=some ⟨b,off,none⟩∧S b∧j9m l[i]∧w.cell? ⟨b,off+i*4,none⟩=some (.int .i64 l[i].a.el)∧w.cell? ⟨b,off+i*4+1,none⟩=some (.int .i64 l[i].a.sd)∧w.cell? ⟨b,off+i*4+2,none⟩=some (.int .i64 l[i].b.el)∧w.cell? ⟨b,off+i*4+3,none⟩=some (.int .i64 l[i].b.sd):=by
 obtain ⟨b,off,h1,h2,h3⟩:=h (by omega);obtain ⟨ys,⟨rfl,h4⟩,h5⟩:=h3 i l[i] (gqE hi);exact ⟨b,off,h1,h2,h4,h5 0 _ rfl,h5 1 _ rfl,h5 2 _ rfl,h5 3 _ rfl⟩
theorem RdS.x36 {l:List Sgn} (h:RdS cSg w S A l) {i:Nat} (hi:i < l.length) :
  ∃ b off,A=some ⟨b,off,none⟩∧S b∧j9a l[i]∧w.cell? ⟨b,off+i*4,none⟩=some (.string (bs l[i].name))∧w.cell? ⟨b,off+i*4+1,none⟩=some (.int .i64 l[i].pos.el)∧w.cell? ⟨b,off+i*4+2,none⟩=some (.int .i64 l[i].pos.sd)∧w.cell? ⟨b,off+i*4+3,none⟩=some (.int .i64 l[i].ovl):=by
 obtain ⟨b,off,h1,h2,h3⟩:=h (by omega);obtain ⟨ys,⟨rfl,h4⟩,h5⟩:=h3 i l[i] (gqE hi);exact ⟨b,off,h1,h2,h4,h5 0 _ rfl,h5 1 _ rfl,h5 2 _ rfl,h5 3 _ rfl⟩
theorem RdS.elB {l:List Bls} (h:RdS cBl w S A l) {i:Nat} (hi:i < l.length) :
  ∃ b off,A=some ⟨b,off,none⟩∧S b∧j9i l[i]∧w.cell? ⟨b,off+i*3,none⟩=some (.int .i64 l[i].id)∧w.cell? ⟨b,off+i*3+1,none⟩=some (.int .i64 l[i].el)∧w.cell? ⟨b,off+i*3+2,none⟩=some (.int .i64 l[i].off):=by
 obtain ⟨b,off,h1,h2,h3⟩:=h (by omega);obtain ⟨ys,⟨rfl,h4⟩,h5⟩:=h3 i l[i] (gqE hi);exact ⟨b,off,h1,h2,h4,h5 0 _ rfl,h5 1 _ rfl,h5 2 _ rfl⟩
end
structure LV where
 l:Lay
 A1:Option Addr
 A2:Option Addr
 A3:Option Addr
 A4:Option Addr
 A5:Option Addr
 c1:Nat
 c2:Nat
 c3:Nat
 c4:Nat
 c5:Nat
abbrev z1c (v:LV):Array Value:=#[.string (bs v.l.name),.slice v.A1 v.l.secs.length v.c1,.slice v.A2 v.l.els.length v.c2,.slice v.A3 v.l.jts.length v.c3,.slice v.A4 v.l.sgs.length v.c4,.slice v.A5 v.l.bls.length v.c5]
def lvA (v:LV):Value:=.agg (z1c v)
structure LvR (w:World) (v:LV):Prop where
 nm:v.l.name.length≤maxLen
 r1:RdS cS w (Lt w) v.A1 v.l.secs
 r2:RdS cE w (Lt w) v.A2 v.l.els
 r3:RdS cJ w (Lt w) v.A3 v.l.jts
 r4:RdS cSg w (Lt w) v.A4 v.l.sgs
 r5:RdS cBl w (Lt w) v.A5 v.l.bls
 n1:v.l.secs.length≤maxLen∧v.l.secs.length≤v.c1
 n2:v.l.els.length≤maxLen∧v.l.els.length≤v.c2
 n3:v.l.jts.length≤maxLen∧v.l.jts.length≤v.c3
 n4:v.l.sgs.length≤maxLen∧v.l.sgs.length≤v.c4
 n5:v.l.bls.length≤maxLen∧v.l.bls.length≤v.c5
theorem LvR.now {w w':World} {v:LV} (h:LvR w v) (hb:Below w.heap.size w w'):LvR w' v:=
 ⟨h.nm,h.r1.now hb,h.r2.now hb,h.r3.now hb,h.r4.now hb,h.r5.now hb,h.n1,h.n2,h.n3,h.n4,h.n5⟩
structure Lx (w0 w:World) (v:LV):Prop where
 bel:Below w0.heap.size w0 w
 blk:Blk w w0.heap.size 28 (z1c v)
 rd:LvR w v
theorem Lx.new {w:World} {v:LV} (h:LvR w v):Lx w (w.alloc (.cells (z1c v) 28)) v:=
 have hb:=(Below.refl w.heap.size w).alloc nL (.cells (z1c v) 28)
 ⟨hb,Blk.new _ _ _ _ rfl,h.now hb⟩
section
variable {w0 w w':World} {v:LV}
theorem Lx.now (h:Lx w0 w v) (hb:Below w.heap.size w w'):Lx w0 w' v:=⟨z00 h.bel h.bel.size hb,h.blk.now hb,h.rd.now hb⟩
theorem Lx.alloc (h:Lx w0 w v) (o:Obj):Lx w0 (w.alloc o) v:=h.now (bQ.alloc nL o)
theorem Lx.drew (h:Lx w0 w v):Lx w0 w.drew v:=h.now bQ.drew
theorem Lx.lt (h:Lx w0 w v):w0.heap.size < w.heap.size:=h.blk.lt
theorem Lx.x0 (h:Lx w0 w v):w.cell? ⟨w0.heap.size,0,none⟩=some (.string (bs v.l.name)):=h.blk.cell 0
theorem Lx.x1 (h:Lx w0 w v):w.cell? ⟨w0.heap.size,1,none⟩=some (.slice v.A1 v.l.secs.length v.c1):=h.blk.cell 1
theorem Lx.x2 (h:Lx w0 w v):w.cell? ⟨w0.heap.size,2,none⟩=some (.slice v.A2 v.l.els.length v.c2):=h.blk.cell 2
theorem Lx.x3 (h:Lx w0 w v):w.cell? ⟨w0.heap.size,3,none⟩=some (.slice v.A3 v.l.jts.length v.c3):=h.blk.cell 3
theorem Lx.x4 (h:Lx w0 w v):w.cell? ⟨w0.heap.size,4,none⟩=some (.slice v.A4 v.l.sgs.length v.c4):=h.blk.cell 4
theorem Lx.x5 (h:Lx w0 w v):w.cell? ⟨w0.heap.size,5,none⟩=some (.slice v.A5 v.l.bls.length v.c5):=h.blk.cell 5
end
structure y6n (w:World):Prop extends EnvR w where
 sides:Lib.TabIs Tryz.prog w "signalling/rail.sides" .i64 [0,2,3,4]
theorem y6n.now {w w':World} (E:y6n w) (hb:Below w.heap.size w w'):y6n w':=⟨E.toEnvR.now hb,Lib.tabBelow_of_tabIs E.sides _ hb⟩
theorem x9p:Tryz.prog.stoodInHeld 90=false:=by kernel_rfl
theorem x3c (w:World) (d:Nat) (x y:z0o):(Op.equalIn (d+2) 90 (.agg #[.int .i64 x.el,.int .i64 x.sd]) (.agg #[.int .i64 y.el,.int .i64 y.sd])).run Tryz.prog w=.ok (decide (x=y)) w:=by
 have h3:=Tryz.underlying3;have hf:=fields_of Tryz.underlying90;rw[run_equalIn_struct w (d+1) 90 _ _ (by rw[hf,Tryz.underlying90]) x9p,hf];obtain ⟨x0,x1⟩:=x;obtain ⟨y0,y1⟩:=y;by_cases e0:x0=y0;case neg=>simp[go_sem,e0]
 subst e0;by_cases e1:x1=y1;case neg=>simp[go_sem,e1]
 subst e1;simp[go_sem]
end Go.Proofs.YtpenlfedkacglaaGreatDoor
namespace Go.Proofs.YtpenlfedkacglaaGreatDoor
open Go.RowKit
section
variable {P:Program} {ops:Array Oper} {Q:Exit→Act→World→Prop}
structure IvS (ops:Array Oper) (n1:Nat) (sl:Nat→Nat) (a0:Act) (W:World) (Pr:Nat→Value→World→Prop) (listed:Array Bool) (a:Act) (w:World):Prop where
 sz:listed.size=ops.size
 ts:a.tmps.size=a0.tmps.size
 df:a.defers=a0.defers
 keep:∀ s,s∉(List.range n1).map sl→a.eval (.tmp s)=a0.eval (.tmp s)
 bel:Below W.heap.size W w
 late:∀ j,n1≤j→listed[j]?≠some true
 cl:∀ (j:Nat),listed[j]? = some true→∀ (o:Oper),ops[j]? = some o→∀ e∈o.after,Region.binds .any e=true→listed[e.on]? = some true
 at_:∀ j,j < n1→listed[j]? = some true→Pr j (a.eval (.tmp (sl j))) w
def waits (ops:Array Oper) (j i:Nat):Bool:=((ops[j]?).map fun o=>o.after.any fun e=>e.on==i && Region.binds .any e).getD false
theorem y2z {j i:Nat} (h:waits ops j i=true):∃ o,ops[j]? = some o∧∃ e∈o.after,e.on=i∧Region.binds .any e=true:=by
 unfold waits at h
 cases ho:ops[j]? with
 | none=>rw[ho] at h;cases h
 | some o=>
  rw[ho] at h;simp only[Option.map_some,Option.getD_some] at h;obtain ⟨e,he,h6⟩:=x2i h;simp only[uT,beq_iff_eq] at h6;exact ⟨o,rfl,e,he,h6.1,h6.2⟩
def x2e (ops:Array Oper) (n1 m:Nat) (sl:Nat→Nat):Bool:=
 Down ops && (decide (n1≤ops.size) && ((List.range n1).all (fun i=>decide (sl i < m)) && ((List.range n1).all (fun i=>((ops[i]?).map fun o=>match o.dst with
  | none=>true
  | some d=>decide (d=sl i) && (List.range n1).all fun j=>decide (j=i) || (!decide (sl j=d) || waits ops j i)).getD false) &&
  (List.range ops.size).all fun i=>decide (i < n1) || (List.range n1).all fun j=>waits ops i j)))
theorem y86 {n1:Nat} {sl:Nat→Nat} {a0:Act} {W:World} (hsh:x2e ops n1 a0.tmps.size sl=true) (Pr:Nat→Value→World→Prop)
  (hstep:∀ i,i < n1→∀ a w,a.tmps.size=a0.tmps.size→a.defers=a0.defers→(∀ s,s∉(List.range n1).map sl→a.eval (.tmp s)=a0.eval (.tmp s))→Below W.heap.size W w→(∀ o,ops[i]? = some o→∀ e∈o.after,Region.binds .any e=true→Pr e.on (a.eval (.tmp (sl e.on))) w)→
   wpOp P ops Q i (fun a' w'=>(∃ y,a' = a.put ((ops[i]?).bind (·.dst)) y)∧Below W.heap.size W w'∧(∀ j y,j≠i→Pr j y w→Pr j y w')∧Pr i (a'.eval (.tmp (sl i))) w') a w)
  (hend:∀ a w,a.tmps.size=a0.tmps.size→a.defers=a0.defers→(∀ s,s∉(List.range n1).map sl→a.eval (.tmp s)=a0.eval (.tmp s))→Below W.heap.size W w→(∀ j,j < n1→Pr j (a.eval (.tmp (sl j))) w)→wpAny P .any ops Q (ops.size - n1) (y7k n1 ops.size) a w) :
  ∀ (fuel:Nat) (listed:Array Bool) (a:Act) (w:World),IvS ops n1 sl a0 W Pr listed a w→cntF listed=fuel→wpAny P .any ops Q fuel listed a w:=by
 simp only[x2e,uT,dET] at hsh;obtain ⟨hd,hn,hlt,hds,hph⟩:=hsh;have hltA:∀ j,j < n1→sl j < a0.tmps.size:=fun j hj=>by
  have:=List.all_eq_true.1 hlt j (List.mem_range.2 hj);simpa using this
 have hdA:∀ i,i < n1→∀ d,(ops[i]?).bind (·.dst)=some d→d=sl i∧∀ j,j < n1→j≠i→sl j=d→waits ops j i=true:=fun i hi d hod=>by
  have h1:=List.all_eq_true.1 hds i (List.mem_range.2 hi)
  cases ho:ops[i]? with
  | none=>rw[ho] at h1;cases h1
  | some o=>
   rw[ho] at h1 hod;simp only[Option.bind_some] at hod;simp only[Option.map_some,Option.getD_some,hod,uT,dET] at h1;refine ⟨h1.1,fun j hj hji hs=>?_⟩;have h2:=List.all_eq_true.1 h1.2 j (List.mem_range.2 hj);simpa [hji,hs] using h2
 have hf:∀ {listed:Array Bool} {i:Nat},listed.getD i true=false→listed[i]? = some false:=by
  intro listed i h;unfold Array.getD at h;split at h
  ·rename_i hi;rw[agE hi];exact congrArg some h
  ·cases h
 have ht:∀ {listed:Array Bool} {i:Nat},listed.getD i false=true→listed[i]? = some true:=by
  intro listed i h;unfold Array.getD at h;split at h
  ·rename_i hi;rw[agE hi];exact congrArg some h
  ·cases h
 have full:∀ (fuel:Nat) (listed:Array Bool) (a:Act) (w:World),IvS ops n1 sl a0 W Pr listed a w→cntF listed=fuel→(∀ j,j < n1→listed[j]? = some true)→wpAny P .any ops Q fuel listed a w:=by
  intro fuel listed a w hI hc hall;have hl:listed=y7k n1 ops.size:=by
   apply Array.ext
   ·unfold y7k;simp[hI.sz];omega
   ·intro j h1 h2;by_cases hj:j < n1
    ·have:=hall j hj;rw[agE h1] at this;rw[sJ this];unfold y7k;show true=(List.replicate n1 true++List.replicate (ops.size - n1) false)[j]'(by simp;omega);rw[List.getElem_append_left (by simpa using hj),List.getElem_replicate]
    ·have h3:=hI.late j (by omega);rw[agE h1] at h3;have h4:listed[j]=false:=by
      cases hv:listed[j] with
      | false=>rfl
      | true=>rw[hv] at h3;exact absurd rfl h3
     rw[h4];unfold y7k;have h9:j < ops.size:=by rw[←hI.sz];exact h1
     show false=(List.replicate n1 true++List.replicate (ops.size - n1) false)[j]'(by simp;omega);rw[List.getElem_append_right (by simp;omega),List.getElem_replicate]
  subst hl;rw[y8x] at hc;subst hc;exact hend a w hI.ts hI.df hI.keep hI.bel fun j hj=>hI.at_ j hj (hall j hj)
 intro fuel
 induction fuel with
 | zero=>
  intro listed a w hI hc;refine full 0 listed a w hI hc fun j hj=>?_
  have hjl:j < listed.size:=by rw[hI.sz];omega
  cases hv:listed[j] with
  | true=>rw[agE hjl,hv]
  | false=>exact (y01 hc (i:=j) (by rw[agE hjl,hv])).elim
 | succ fuel ih=>
  intro listed a w hI hc;by_cases hall:∀ j,j < n1→listed[j]? = some true
  ·exact full _ listed a w hI hc hall
  refine ⟨fun hr=>?_,fun i hi=>?_⟩
  ·exact absurd (fun j hj=>z9f hd hI.sz hr j (by omega)) hall
  ·obtain ⟨h1,h2,h3⟩:=z6i hi;have hlf:=hf h2;by_cases hin:i < n1
   ·refine wpOp_mono (fun a' w' h=>?_) (hstep i hin a w hI.ts hI.df hI.keep hI.bel fun o ho e he hb=>?_)
    ·obtain ⟨⟨y,rfl⟩,hb,hst,hy⟩:=h;have hother:∀ j,j < n1→j≠i→listed[j]? = some true→(a.put ((ops[i]?).bind (·.dst)) y).eval (.tmp (sl j))=a.eval (.tmp (sl j)):=fun j hj hji hl=>by
      cases hod:(ops[i]?).bind (·.dst) with
      | none=>rfl
      | some d=>
       obtain ⟨-,hw⟩:=hdA i hin d hod;refine z3i _ _ _ _ fun e=>?_
       obtain ⟨o,ho,e2,he2,he3,he4⟩:=y2z (hw j hj hji e.symm);have:=hI.cl j hl o ho e2 he2 he4;rw[he3,hlf] at this;cases this
     refine ih _ _ w' ⟨by rw[Array.size_setIfInBounds];exact hI.sz,by rw[z7p];exact hI.ts,?_,fun s hs=>?_,hb,fun j hj=>?_,fun j hl o ho e he hbe=>?_,fun j hj hl=>?_⟩ ?_
     ·cases (ops[i]?).bind (·.dst) <;> exact hI.df
     ·cases hod:(ops[i]?).bind (·.dst) with
      | none=>exact hI.keep s hs
      | some d=>
       obtain ⟨hde,-⟩:=hdA i hin d hod;rw[z3i _ _ _ _ (fun e=>hs (by rw[←e,hde];exact List.mem_map.2 ⟨i,List.mem_range.2 hin,rfl⟩))];exact hI.keep s hs
     ·rw[Array.getElem?_setIfInBounds_ne (by omega)];exact hI.late j hj
     ·by_cases ej:i=j
      ·subst ej;have:=ht (h3 o ho e he hbe);by_cases eo:i=e.on
       ·rw[←eo,hlf] at this;cases this
       ·rw[Array.getElem?_setIfInBounds_ne eo];exact this
      ·rw[Array.getElem?_setIfInBounds_ne ej] at hl;have:=hI.cl j hl o ho e he hbe;by_cases eo:i=e.on
       ·rw[←eo,hlf] at this;cases this
       ·rw[Array.getElem?_setIfInBounds_ne eo];exact this
     ·by_cases e:i=j
      ·subst e;exact hy
      ·rw[Array.getElem?_setIfInBounds_ne e] at hl;rw[hother j hj (fun q=>e q.symm) hl];exact hst j _ (fun q=>e q.symm) (hI.at_ j hj hl)
     ·have:=z9e hlf;omega
    ·have hon:=ht (h3 o ho e he hb);have hel:e.on < n1:=by
      by_cases q:e.on < n1
      ·exact q
      ·exact absurd hon (hI.late _ (by omega))
     exact hI.at_ _ hel hon
   ·exfalso;apply hall;intro j hj;have h4:=List.all_eq_true.1 hph i (List.mem_range.2 h1);simp only[Bool.or_eq_true,dET,hin,false_or] at h4;have h5:=List.all_eq_true.1 h4 j (List.mem_range.2 hj);obtain ⟨o,ho,e,he,rfl,hb⟩:=y2z h5;exact ht (h3 _ ho e he hb)
theorem z6b {id:Nat} {a0:Act} {W:World} (n1 n2 m:Nat) (sl:Nat→Nat) (L0:Array Bool) (hn:ops.size - n1=n2) (hL:y7k n1 ops.size=L0) (h0:a0.tmps.size=m) (hm:P.follows .mixedOrders=true) (hsh:x2e ops n1 m sl=true) (Pr:Nat→Value→World→Prop)
  (hstep:∀ i,i < n1→∀ a w,a.tmps.size=m→a.defers=a0.defers→(∀ s,s∉(List.range n1).map sl→a.eval (.tmp s)=a0.eval (.tmp s))→Below W.heap.size W w→(∀ o,ops[i]? = some o→∀ e∈o.after,Region.binds .any e=true→Pr e.on (a.eval (.tmp (sl e.on))) w)→
   wpOp P ops Q i (fun a' w'=>(∃ y,a' = a.put ((ops[i]?).bind (·.dst)) y)∧Below W.heap.size W w'∧(∀ j y,j≠i→Pr j y w→Pr j y w')∧Pr i (a'.eval (.tmp (sl i))) w') a w)
  (hend:∀ a w,a.tmps.size=m→a.defers=a0.defers→(∀ s,s∉(List.range n1).map sl→a.eval (.tmp s)=a0.eval (.tmp s))→Below W.heap.size W w→(∀ j,j < n1→Pr j (a.eval (.tmp (sl j))) w)→wpAny P .any ops Q n2 L0 a w) :
  (Code.region id ops true).wp P Q a0 W:=by
 subst hn hL h0;refine wp_region_any hm (y86 hsh Pr hstep hend _ _ _ _ ⟨by simp,rfl,rfl,fun _ _=>rfl,bQ.drew,fun j _ hl=>?_,fun j hl=>?_,fun j _ hl=>?_⟩ (by unfold cntF;simp));all_goals (rw[Array.getElem?_replicate] at hl;split at hl <;> cases hl)
theorem z4g {a:Act} {w:World} {i:Nat} {sl:Nat→Nat} {Pr:Nat→Value→World→Prop} (hd:∀ o,ops[i]? = some o→∀ e∈o.after,Region.binds .any e=true→Pr e.on (a.eval (.tmp (sl e.on))) w) {o:Oper} (ho:ops[i]? = some o) (j:Nat) {e:Edge} (he:o.after[j]? = some e) (hb:Region.binds .any e=true) {d s:Nat} (h1:e.on=d) (h2:sl d=s):Pr d (a.eval (.tmp s)) w:=by
 subst h1 h2;exact hd o ho e (Array.mem_of_getElem? he) hb
theorem y1i {a:Act} {w W:World} {j d:Nat} {op:Op} {ty:TypeId} {ps:String} {af:Array Edge} {g:Option (Nat × Bool)} {sl:Nat→Nat} {Pr:Nat→Value→World→Prop} (ho:ops[j]? = some (.mk (some d) op ty ps af g)) (hs:sl j=d) (hz:d < a.tmps.size) (hb:Below W.heap.size W w) (hst:∀ j y w w',Pr j y w→Below w.heap.size w w'→Pr j y w')
  (h:∀ K:Act→World→Prop,Hid (∀ y w',Below w.heap.size w w'→Pr j y w'→K (a.put (some d) y) w')→if Region.wanted (.mk (some d) op ty ps af g) (yielded ops a.tmps)=true then Oper.wp P (.mk (some d) op ty ps af g) a w K Q else K (a.put (some d) undef) w) :
  wpOp P ops Q j (fun a' w'=>(∃ y,a' = a.put ((ops[j]?).bind (·.dst)) y)∧Below W.heap.size W w'∧(∀ k y,k≠j→Pr k y w→Pr k y w')∧Pr j (a'.eval (.tmp (sl j))) w') a w:=
 z4r ho (h _ (hE fun y w' h1 h2=>⟨⟨y,by rw[ho];rfl⟩,z00 hb hb.size h1,fun k y' _ q=>hst k y' w w' q h1,by rw[hs,z9r _ _ _ hz];exact h2⟩))
theorem j9u {a:Act} {w W:World} {j:Nat} {op:Op} {ty:TypeId} {ps:String} {af:Array Edge} {g:Option (Nat × Bool)} {sl:Nat→Nat} {Pr:Nat→Value→World→Prop} (ho:ops[j]? = some (.mk none op ty ps af g))
  (h:∀ K:Act→World→Prop,Hid (∀ w',Below W.heap.size W w'→(∀ k y,k≠j→Pr k y w→Pr k y w')→Pr j (a.eval (.tmp (sl j))) w'→K (a.put none undef) w')→if Region.wanted (.mk none op ty ps af g) (yielded ops a.tmps)=true then Oper.wp P (.mk none op ty ps af g) a w K Q else K (a.put none undef) w) :
  wpOp P ops Q j (fun a' w'=>(∃ y,a' = a.put ((ops[j]?).bind (·.dst)) y)∧Below W.heap.size W w'∧(∀ k y,k≠j→Pr k y w→Pr k y w')∧Pr j (a'.eval (.tmp (sl j))) w') a w:=
 z4r ho (h _ (hE fun w' h1 h2 h3=>⟨⟨undef,by rw[ho];rfl⟩,h1,h2,h3⟩))
end
end Go.Proofs.YtpenlfedkacglaaGreatDoor
namespace Go.Proofs.YtpenlfedkacglaaGreatDoor
open Go.RowKit
attribute [local go_sem] z05 z07 z01 z02
attribute [-go_sem] run_equalIn_agg
theorem y1a (n c:Int) (w:World) (hc:c < 9223372036854775807):Calls Tryz.prog 52 #[.int .i64 n,.int .i64 c] w fun e w'=>e=.returned (.bool (inB n 0 (c - 1)))∧w=w':=by
 go_enter Tryz.func52,Tryz.ntmps52
 go_wp2;all_goals (go_ret;refine ⟨z0a ?_,rfl⟩;unfold inB;rw[Bool.eq_iff_iff];simp only[uT,dET,Bool.false_eq_true,true_iff,false_iff];omega)
theorem z1g {n c:Int} {b:Bool} (h:inB n 0 (c - 1)=b) (w:World) (hc:c < 9223372036854775807):Calls Tryz.prog 52 #[.int .i64 n,.int .i64 c] w fun e w'=>e=.returned (.bool b)∧w=w':=h▸y1a n c w hc
theorem z1x (n c:Int) (w:World) (hc:c < 9223372036854775807):Calls Tryz.prog 52 #[.int .i64 n,.int .i64 c] w fun e w'=>e=.returned (.bool (inB n 0 (c - 1)))∧w' = w:=(y1a n c w hc).mono fun _ _ ⟨h1,h2⟩=>⟨h1,h2.symm⟩
theorem x9u {α:Type} {l:List α} {k:Nat} {x:α} (hlt:k < l.length) (h:x∉l.take k) (hx:¬l[k]=x):x∉l.take (k+1):=by
 rw[tqS hlt];intro hm;rcases List.mem_append.1 hm with hm | hm
 ·exact h hm
 ·exact hx (List.mem_singleton.1 hm).symm
theorem x0t (l:List Int) (A:Option Addr) (cap:Nat) (x:Int) (w:World) (hr:RdS cI w (Lt w) A l) (hl:l.length≤maxLen) :
  Calls Tryz.prog 107 #[.slice A l.length cap,.int .i64 x] w fun e w'=>(∃ n:Int,e=.returned (.int .i64 n)∧(n < 0↔x∉l))∧w=w':=by
 unfold maxLen at hl;go_enter Tryz.func107,Tryz.ntmps107
 go_wp2;go_loop [8] (fun i=>∃ k:Nat,k≤l.length∧i=.int .i64 k∧Hid (x∉l.take k)) (fun i=>l.length - (intOf i).toNat)
 case atStart=>exact ⟨0,nZ,rfl,hE (by simp)⟩
 case round=>
  obtain ⟨k,hk,rfl,HK⟩:=hrel;by_cases hlt:k < l.length
  ·have hki:(k:Int) < (l.length:Int):=by omega
   obtain ⟨b,off,rfl,lb,ho,y0⟩:=hr.elI hlt;by_cases hx:l[k]=x
   ·have HE:Hid (x∈l):=hE (hx▸uE hlt);have hxb:(x==l[k])=true:=by simp[hx]
    clear hx hr ho;generalize l[k]=q at *;go_wp2_with fail
    go_ret;exact ⟨⟨(k:Int),rfl,⟨fun h=>by omega,fun h=>absurd HE.out h⟩⟩,rfl⟩
   ·have HN:=hE (x9u hlt HK.out hx);have hxb:(x==l[k])=false:=by rw[beq_eq_false_iff_ne];exact fun e=>hx e.symm
    clear hx hr ho;generalize l[k]=q at *;go_wp2_with fail
    go_round
    case rel=>exact ⟨k+1,by omega,by go_num,HN⟩
    case measure=>simp[intOf];omega
  ·have HE:Hid (x∉l):=hE (by
    have h1:=HK.out
    rwa [tlL (by omega)] at h1)
   go_wp2_with fail;go_ret
   exact ⟨⟨-1,rfl,⟨fun _=>HE.out,fun _=>by omega⟩⟩,rfl⟩
theorem x1s (v:z1w) (x:Int) (w:World) (hr:TvR w v):Calls Tryz.prog 60 #[tvA v,.int .i64 x] w fun e w'=>(∃ n:Int,e=.returned (.int .i64 n)∧(n < 0↔x∉v.t.pts))∧Below w.heap.size w w':=by
 have hb:=Bx.new hr;have x1:=hb.x1;have HI:=hE (x0t v.t.pts v.A2 v.c2 x _ hb.rd.r2 hr.n2.1);unfold tvA;go_enter Tryz.func60,Tryz.ntmps60
 go_wp2_with fail;refine HI.out.mono ?_;rintro e w1 ⟨⟨n,rfl,hn⟩,rfl⟩;have HN:=hE hn;clear hn x1;go_wp2_with fail
 go_ret;exact ⟨⟨n,rfl,HN.out⟩,hb.bel⟩
theorem x6d {a b:List Stg} {k:Nat} (hk:k < a.length) (h:(a.take k).all (fun x=>b.all fun y=>!(decide (x.el=y.el) && decide (x.pos≠y.pos)))=true) (h2:(b.all fun y=>!(decide (a[k].el=y.el) && decide (a[k].pos≠y.pos)))=true):(a.take (k+1)).all (fun x=>b.all fun y=>!(decide (x.el=y.el) && decide (x.pos≠y.pos)))=true:=z4a hk h h2
theorem j5a {a b:List Stg} {i j:Nat} (hi:i < a.length) (hj:j < b.length) (h1:a[i].el=b[j].el) (h2:a[i].pos≠b[j].pos):y1f a b=false:=by
 unfold y1f;exact z4p hi (z4p hj (by simp[h1,h2]))
theorem j4z {x:Stg} {b:List Stg} {j:Nat} (hj:j < b.length) (h:((b.take j).all fun y=>!(decide (x.el=y.el) && decide (x.pos≠y.pos)))=true) (h2:¬(x.el=b[j].el∧x.pos≠b[j].pos)):((b.take (j+1)).all fun y=>!(decide (x.el=y.el) && decide (x.pos≠y.pos)))=true:=
 z4a hj h (by
  rw[Bool.not_eq_true',Bool.and_eq_false_iff];by_cases he:x.el=b[j].el
  ·right;simp only[decide_eq_false_iff_not];exact fun hp=>h2 ⟨he,hp⟩
  ·left;simpa using he)
theorem y4r (a b:List Stg) (A B:Option Addr) (ca cb:Nat) (w:World) (ha:RdS z2x w (Lt w) A a) (hb:RdS z2x w (Lt w) B b) (la:a.length≤maxLen) (lb:b.length≤maxLen) :
  Calls Tryz.prog 56 #[.slice A a.length ca,.slice B b.length cb] w fun e w'=>e=.returned (.bool (y1f a b))∧Below w.heap.size w w':=by
 unfold maxLen at la lb;go_enter Tryz.func56,Tryz.ntmps56
 go_wp2_with fail;go_loopw [11] (fun n wr=>∃ k:Nat,k≤a.length∧n=.int .i64 k∧Below w.heap.size w wr∧Hid ((a.take k).all (fun x=>b.all fun y=>!(decide (x.el=y.el) && decide (x.pos≠y.pos)))=true)) (fun n _=>a.length - (intOf n).toNat)
 case atStart=>exact ⟨0,nZ,rfl,bQ,hE (by simp)⟩
 case round=>
  obtain ⟨k,hk,rfl,hbel,HK⟩:=hrel;by_cases hlt:k < a.length
  ·have hki:(k:Int) < (a.length:Int):=by omega
   obtain ⟨p1,o1,rfl,l1,-,y0,y1⟩:=(ha.now hbel).elG hlt;have hba:=hbel.alloc hbel.size (.cells #[.int .i64 a[k].el,.int .i64 a[k].pos] 78);have hx6:Blk (wr.alloc (.cells #[.int .i64 a[k].el,.int .i64 a[k].pos] 78)) wr.heap.size 78 #[.int .i64 a[k].el,.int .i64 a[k].pos]:=Blk.new _ _ _ _ rfl;have HST:=hE fun h2=>x6d (a:=a) (b:=b) hlt HK.out h2
   have HNO:=hE fun (j:Nat) (hj:j < b.length)=>j5a (a:=a) (b:=b) hlt hj
   clear HK ha;generalize a[k]=p at *;go_wp2_with fail
   generalize hw1:wr.alloc (.cells #[.int .i64 p.el,.int .i64 p.pos] 78)=w1 at *;generalize hg1:wr.heap.size=g1 at *;clear hw1 hbel y0 y1 l1;go_loopw [17] (fun n wr=>∃ j:Nat,j≤b.length∧n=.int .i64 j∧Below w.heap.size w wr∧Blk wr g1 78 #[.int .i64 p.el,.int .i64 p.pos]∧Hid (((b.take j).all fun y=>!(decide (p.el=y.el) && decide (p.pos≠y.pos)))=true)) (fun n _=>b.length - (intOf n).toNat)
   case atStart=>exact ⟨0,nZ,rfl,hba,hx6,hE (by simp)⟩
   case round=>
    clear hba hx6;obtain ⟨j,hj,rfl,hbel,hx,HJ⟩:=hrel;by_cases hltj:j < b.length
    ·have hji:(j:Int) < (b.length:Int):=by omega
     obtain ⟨p2,o2,rfl,l2,-,z0,z1⟩:=(hb.now hbel).elG hltj;have hba2:=hbel.alloc hbel.size (.cells #[.int .i64 b[j].el,.int .i64 b[j].pos] 78);have hxa:=hx.alloc (.cells #[.int .i64 b[j].el,.int .i64 b[j].pos] 78);have u0:=hxa.cell 0;have u1:=hxa.cell 1;simp only[gqA,gqZ,gqS] at u0 u1;have HIN:=hE fun h2=>j4z (x:=p) hltj HJ.out h2
     have HN2:=hE (HNO.out j hltj);by_cases he:p.el=b[j].el
     ·by_cases hp:p.pos=b[j].pos
      ·have HR:=hE (HIN.out fun h=>h.2 hp);have t1:(p.el==b[j].el)=true:=by simp[he]
       have t2:(p.pos != b[j].pos)=false:=by simp[hp]
       clear HIN HN2 HJ he hp;generalize b[j]=q at *;go_wp2_with fail
       go_roundw
       case rel=>exact ⟨j+1,by omega,by go_num,hba2,hxa,HR⟩
       case measure=>simp[intOf];omega
      ·have HR:=hE (HN2.out he hp);have t1:(p.el==b[j].el)=true:=by simp[he]
       have t2:(p.pos != b[j].pos)=true:=by simp[hp]
       clear HIN HN2 HJ he hp;generalize b[j]=q at *;go_wp2_with fail
       go_ret;exact ⟨z0a HR.out.symm,hba2⟩
     ·have HR:=hE (HIN.out fun h=>he h.1);have t1:(p.el==b[j].el)=false:=by simp[he]
      clear HIN HN2 HJ he;generalize b[j]=q at *;go_wp2_with fail
      go_roundw
      case rel=>exact ⟨j+1,by omega,by go_num,hba2,hxa,HR⟩
      case measure=>simp[intOf];omega
    ·have HR:=hE (HST.out (z7d hltj HJ.out));go_wp2_with fail
     go_roundw
     case rel=>exact ⟨k+1,by omega,by go_num,hbel,HR⟩
     case measure=>simp[intOf];omega
  ·have HR:Hid (y1f a b=true):=hE (z7d hlt HK.out);go_wp2_with fail
   go_ret;exact ⟨z0a HR.out.symm,hbel⟩
theorem z3f:(Tryz.prog.info? 3).map (fun i=>(i.zero,i.size,i.bytes))=some (some (.int .i64 0),1,8):=by kernel_rfl
theorem x63 (w:World) (e:TypeId) (n:Nat) (hn:n≤100000):(w.drew.alloc (.cells (Builtin.zeroCells #[.int .i64 0] n++Builtin.zeroCells #[.int .i64 0] (grownCap w n 0 e - n)) e)).ownsRow w.heap.size e 1 (.slice (some ⟨w.heap.size,0,none⟩) 0 (grownCap w n 0 e)) 0 []:=by
 have h1:=grownCap_ge w n 0 e;have h2:=grownCap_le_maxLen w n 0 e (by unfold maxLen;omega);refine ⟨by simp,Or.inr ⟨w.heap.size,_,_,rfl,nL,heap_alloc_new _ _,nZ,h2,?_,by simp⟩⟩;simp[size_zeroCells];omega
theorem x7n (n:Nat) (w:World) (hn:n≤100000) :
  Calls Tryz.prog 148 #[.slice none 0 0,.int .i64 n] w fun e w'=>∃ v,e=.returned v∧w'.ownsRow w.heap.size 3 1 v 0 []∧Below w.heap.size w w':=by
 obtain ⟨i0,hi0,hz0,hz1,hz2⟩:=info_parts z3f;by_cases h0:n=0
 ·subst h0;go_enter Tryz.func148,Tryz.ntmps148
  go_wp2_with fail;go_ret
  exact ⟨_,rfl,World.ownsRow_nil _ _ _ _,bQ⟩
 ·have h1:¬(n:Int) < 0:=by omega
  have h2:(0:Int) < (n:Int):=by omega
  have hrun:=Lib.run_append_nil_zeros (P:=Tryz.prog) w 31 3 31 3 i0 (.int .i64 0) .i64 .i64 Tryz.underlying31 Tryz.underlying3 hi0 hz0 n (by omega) (by omega) (by omega) (by rw[hz2];omega);have HO:=hE (x63 w 3 n hn);have HB:Hid (Below w.heap.size w (w.drew.alloc (.cells (Builtin.zeroCells #[.int .i64 0] n++Builtin.zeroCells #[.int .i64 0] (grownCap w n 0 3 - n)) 3))):=hE ((bQ.drew).alloc nL _);have HR:=hE hrun;clear hrun h0;go_enter Tryz.func148,Tryz.ntmps148
  go_wp2_with (at_builtin;go_loud (refine Lib.wpList_append_run _ rfl _ _ _ _ rfl _ _ (by rfl) (by rfl) _ _ HR.out ?_))
  go_ret;exact ⟨_,rfl,HO.out,HB.out⟩
theorem j9j {w:World} {S:Nat→Prop} {A:Option Addr} {ls:List (List Int)} (h:RdS (cL cI) w S A ls) {k:Nat} (hk:k < ls.length):∃ b off A' cap',A=some ⟨b,off,none⟩∧w.cell? ⟨b,off+k,none⟩=some (.slice A' ls[k].length cap')∧(ls[k].length≤maxLen∧ls[k].length≤cap')∧RdS cI w S A' ls[k]:=by
 obtain ⟨b,off,h1,h2⟩:=h.pick rfl;obtain ⟨u,h3,h4⟩:=h2 k _ (gqE hk);obtain ⟨A',cap',rfl,h5,h6⟩:=z7f h3;exact ⟨b,off,A',cap',(h1 (by omega)).1,h4,h5,h6⟩
theorem x7s (ys:List Value) (x:Int) {w:World} {S:Nat→Prop} (h:cI.rd w S ys x):∀ u∈ys,u.oneCell' = true:=by
 obtain ⟨rfl,_⟩:=h;intro u hu;simp only[List.mem_singleton] at hu;subst hu;rfl
def y8y (ls:List (List Int)) (k:Nat):Nat:=((ls.take k).map List.length).sum
theorem y0c {ls:List (List Int)} {k:Nat} (h:k < ls.length):y8y ls (k+1)=y8y ls k+ls[k].length:=by
 unfold y8y;rw[tqS h,List.map_append,List.sum_append];simp
theorem x48 (ls:List (List Int)) (b:Nat) (h:∀ l∈ls,l.length≤b):∀ k,k≤ls.length→y8y ls k≤k*b
 | 0,_=>by simp[y8y]
 | k+1,hk=>by
  have:=x48 ls b h k (by omega);have h2:=h _ (uE (show k < ls.length by omega));rw[y0c (by omega),Nat.succ_mul];omega
def flatK (ls:List (List Int)) (k:Nat):List Int:=(ls.take k).flatten
theorem x0m {ls:List (List Int)} {k:Nat} (h:k < ls.length):flatK ls (k+1)=flatK ls k++ls[k]:=by
 unfold flatK;rw[tqS h,List.flatten_append];simp
theorem x3j (ls:List (List Int)) (k:Nat):(flatK ls k).length=y8y ls k:=by unfold flatK y8y;rw[List.length_flatten]
theorem x3i {ls:List (List Int)} {k:Nat} (h:¬k < ls.length):flatK ls k=ls.flatten:=by unfold flatK;rw[tlL (by omega)]
theorem z8a (ls:List (List Int)) (A:Option Addr) (cap:Nat) (w:World) (hr:RdS (cL cI) w (Lt w) A ls) (hl:ls.length≤2) (hls:∀ l∈ls,l.length≤40000) :
  Calls Tryz.prog 102 #[.slice A ls.length cap] w fun e w'=>∃ v,e=.returned v∧y1e cI w' w.heap.size 3 v ls.flatten∧Below w.heap.size w w':=by
 obtain ⟨i0,hi0,hz0,hz1,hz2⟩:=info_parts z3f;have HS:=hE (x48 ls 40000 hls);have HL:=hE hls;clear hls;go_enter Tryz.func102,Tryz.ntmps102
 go_wp2_with fail;go_loopw [3,11] (fun s n wr=>∃ k:Nat,k≤ls.length∧n=.int .i64 k∧s=.int .i64 (y8y ls k:Nat)∧Hid (wr=w)) (fun _ n _=>ls.length - (intOf n).toNat)
 case atStart=>exact ⟨0,nZ,rfl,rfl,hE rfl⟩
 case round=>
  obtain ⟨k,hk,rfl,rfl,HW⟩:=hrel;have hw:=HW.out.symm;subst hw;by_cases hlt:k < ls.length
  ·have hki:(k:Int) < (ls.length:Int):=by omega
   obtain ⟨b,off,A',c',rfl,y0,hm,hr'⟩:=j9j hr hlt;have h1:=HS.out k hk;have h2:=HS.out (k+1) hlt;have h3:=y0c hlt;have hm1:=hm.1;generalize ls[k]=q at *;have HQ:Hid (((y8y ls k:Nat):Int)+(q.length:Int)=((y8y ls (k+1):Nat):Int)):=hE (by omega);clear h3 hm;obtain ⟨m1,hm1e⟩:∃ m,y8y ls (k+1)=m:=⟨_,rfl⟩
   rw[hm1e] at h2 HQ;have HM1:=hE hm1e;clear hm1e;generalize y8y ls k=m0 at *;have hm0:(m0:Int)≤90000:=by omega
   have hq0:(q.length:Int)≤100000:=by have:=HQ.out;omega
   have hneg:¬((m0:Int)+(q.length:Int) < 0):=by omega
   clear h1 h2;go_wp2_with fail
   go_round
   case rel=>exact ⟨k+1,by omega,by go_num,by rw[HM1.out,←HQ.out],hE (by first | rfl | trivial)⟩
   case measure=>simp[intOf];omega
  ·have hsl:=HS.out k hk;obtain ⟨m0,hm0⟩:∃ m,y8y ls k=m:=⟨_,rfl⟩
   rw[hm0] at hsl ⊢;have HM:Hid (m0=y8y ls k):=hE hm0.symm;have HKL:Hid (k=ls.length):=hE (by omega);have HG:=hE (x7n m0 w (by omega));clear hm0 hsl;go_wp2_with fail
   refine HG.out.mono ?_;rintro e w1 ⟨v1,rfl,hown1,hb1⟩;have hlow1:y1e cI w1 w.heap.size 3 v1 (flatK ls 0):=⟨[],hown1,rfl,hb1.size⟩
   have hr1:RdS (cL cI) w1 (fun b=>b < w.heap.size) A ls:=hr.keep fun p hp=>hb1.cell hp
   clear hown1 HG;go_wp2_with fail
   go_loopw [6,27] (fun v n wr=>∃ j:Nat,j≤ls.length∧n=.int .i64 j∧y1e cI wr w.heap.size 3 v (flatK ls j)∧Below w.heap.size w1 wr) (fun _ n _=>ls.length - (intOf n).toNat)
   case atStart=>exact ⟨0,nZ,rfl,hlow1,bQ⟩
   case round=>
    obtain ⟨j,hj,rfl,hlow,hb2⟩:=hrel;clear hlow1;by_cases hltj:j < ls.length
    ·have hji:(j:Int) < (ls.length:Int):=by omega
     obtain ⟨b,off,A',c',hA,y0,hm,hr'⟩:=j9j (hr1.low hb2) hltj;have HT:=hE (x0m hltj);have hq1:=HL.out _ (uE hltj);have hq2:=HS.out (j+1) hltj;have hq5:=y0c hltj;have hq3:=x3j ls j;have hq4:(flatK ls j).length+ls[j].length≤90000:=by omega
     rw[hA];clear hA hq2 hq3 hm hq5;generalize ls[j]=q at *;generalize flatK ls j=acc at *;go_wp2_with (at_builtin;go_loud (refine z3e (c:=cI) _ rfl _ _ 31 rfl w.heap.size 3 i0 _ 8 Tryz.underlying31 hi0 hz0 hz1 hz2 rfl (by decide) _ acc (by rfl) hlow A' c' q (by rfl) hr' (fun ys x h=>x7s ys x h) (by omega) (by omega) ?_);intro v5 w5 hlow5 hb5)
     go_roundw
     case rel=>exact ⟨j+1,by omega,by go_num,by rw[HT.out];exact hlow5,hb2.trans hb5⟩
     case measure=>simp[intOf];omega
    ·have HE:=hE (x3i hltj);rw[HE.out] at hlow;have HO:=hE hlow;have HB:=hE (hb1.trans hb2);clear hlow HE;go_wp2_with fail
     go_ret;exact ⟨_,rfl,HO.out,HB.out⟩
theorem z4w (n lo hi:Int) (w:World):Calls Tryz.prog 114 #[.int .i64 n,.int .i64 lo,.int .i64 hi] w fun e w'=>e=.returned (.bool (inB n lo hi))∧w=w':=by
 go_enter Tryz.func114,Tryz.ntmps114
 go_wp2;all_goals (go_ret;refine ⟨z0a ?_,rfl⟩;unfold inB;rw[Bool.eq_iff_iff];simp only[uT,dET,Bool.false_eq_true,true_iff,false_iff];omega)
theorem x60 {n lo hi:Int} {b:Bool} (h:inB n lo hi=b) (w:World):Calls Tryz.prog 114 #[.int .i64 n,.int .i64 lo,.int .i64 hi] w fun e w'=>e=.returned (.bool b)∧w' = w:=(z4w n lo hi w).mono fun _ _ ⟨h1,h2⟩=>⟨h▸h1,h2.symm⟩
theorem y0u (k:Int) (w:World) (E:y6n w):Calls Tryz.prog 85 #[.int .i64 k] w fun e w'=>e=.returned (.int .i64 (z2k k))∧w=w':=by
 have hg:Tryz.prog.globalNamed "signalling/rail.sides" = some 1:=by kernel_rfl
 have s0:w.cell? ⟨1,0,none⟩=some (.int .i64 0):=E.sides.cell hg 0 (by decide);have s1:w.cell? ⟨1,1,none⟩=some (.int .i64 2):=E.sides.cell hg 1 (by decide);have s2:w.cell? ⟨1,2,none⟩=some (.int .i64 3):=E.sides.cell hg 2 (by decide);have s3:w.cell? ⟨1,3,none⟩=some (.int .i64 4):=E.sides.cell hg 3 (by decide);by_cases h0:k < 0
 ·have HS:Hid (z2k k=0):=hE (by unfold z2k;rw[if_neg (by omega),if_neg (by omega),if_neg (by omega)]);go_enter Tryz.func85,Tryz.ntmps85
  go_wp2;go_ret
  exact ⟨z0i HS.out.symm,rfl⟩
 ·by_cases h4:4≤k
  ·have HS:Hid (z2k k=0):=hE (by unfold z2k;rw[if_neg (by omega),if_neg (by omega),if_neg (by omega)]);go_enter Tryz.func85,Tryz.ntmps85
   go_wp2;go_ret
   exact ⟨z0i HS.out.symm,rfl⟩
  ·have:k=0∨k=1∨k=2∨k=3:=by omega
   rcases this with rfl | rfl | rfl | rfl;all_goals (
    clear h0 h4;go_enter Tryz.func85,Tryz.ntmps85
    go_wp2;go_ret
    exact ⟨rfl,rfl⟩)
theorem j4d {α:Type} {l:List α} {k:Nat} {x:α} (hlt:k < l.length) (h:x∉l.take k) (hx:¬l[k]=x):x∉l.take (k+1):=by
 rw[tqS hlt];intro hm;rcases List.mem_append.1 hm with hm | hm
 ·exact h hm
 ·exact hx (List.mem_singleton.1 hm).symm
theorem x9t {α:Type} [DecidableEq α] {l:List α} {k:Nat} {x:α} (hlt:¬k < l.length) (h:x∉l.take k):z5k l x = -1:=by
 rw[tlL (by omega)] at h;exact j1u h
theorem z6k (v:LV) (x:z0o) (w:World) (hr:LvR w v):Calls Tryz.prog 118 #[lvA v,.agg #[.int .i64 x.el,.int .i64 x.sd]] w fun e w'=>e=.returned (.int .i64 (z5k (v.l.sgs.map Sgn.pos) x))∧Below w.heap.size w w':=by
 have hbx:=(Lx.new hr).alloc (.cells #[.int .i64 x.el,.int .i64 x.sd] 90);have hx1:Blk ((w.alloc (.cells (z1c v) 28)).alloc (.cells #[.int .i64 x.el,.int .i64 x.sd] 90)) (w.heap.size+1) 90 #[.int .i64 x.el,.int .i64 x.sd]:=Blk.new _ _ _ _ (by simp);have hn:=hr.n4.1;have HQ:=hE fun W (y:z0o)=>x3c W 9998 y x
 unfold maxLen at hn;unfold lvA;go_enter Tryz.func118,Tryz.ntmps118
 go_wp2_with fail;go_loopw [10] (fun i wr=>∃ k:Nat,k≤v.l.sgs.length∧i=.int .i64 k∧Lx w wr v∧Blk wr (w.heap.size+1) 90 #[.int .i64 x.el,.int .i64 x.sd]∧Hid (x∉(v.l.sgs.map Sgn.pos).take k)) (fun i _=>v.l.sgs.length - (intOf i).toNat)
 case atStart=>exact ⟨0,nZ,rfl,hbx,hx1,hE (by simp)⟩
 case round=>
  obtain ⟨k,hk,rfl,hb,hxb,HK⟩:=hrel;clear hbx hx1;have hsz:=hxb.lt;by_cases hlt:k < v.l.sgs.length
  ·have hki:(k:Int) < (v.l.sgs.length:Int):=by omega
   have hlm:k < (v.l.sgs.map Sgn.pos).length:=by simpa using hlt
   obtain ⟨b,off,hA,lb,ho,y0,y1,y2,y3⟩:=hb.rd.r4.x36 hlt;have hba:=hb.alloc (.cells #[.string (bs v.l.sgs[k].name),.int .i64 v.l.sgs[k].pos.el,.int .i64 v.l.sgs[k].pos.sd,.int .i64 v.l.sgs[k].ovl] 105);have hxa:=hxb.alloc (.cells #[.string (bs v.l.sgs[k].name),.int .i64 v.l.sgs[k].pos.el,.int .i64 v.l.sgs[k].pos.sd,.int .i64 v.l.sgs[k].ovl] 105);have z0:(wr.alloc (.cells #[.string (bs v.l.sgs[k].name),.int .i64 v.l.sgs[k].pos.el,.int .i64 v.l.sgs[k].pos.sd,.int .i64 v.l.sgs[k].ovl] 105)).cell? ⟨w.heap.size+1,0,none⟩=some (.int .i64 x.el):=hxa.cell 0;have z1:(wr.alloc (.cells #[.string (bs v.l.sgs[k].name),.int .i64 v.l.sgs[k].pos.el,.int .i64 v.l.sgs[k].pos.sd,.int .i64 v.l.sgs[k].ovl] 105)).cell? ⟨w.heap.size+1,1,none⟩=some (.int .i64 x.sd):=hxa.cell 1;rw[hA];have hq:=fun W=>HQ.out W v.l.sgs[k].pos
   cases hd:decide (v.l.sgs[k].pos=x) with
   | true=>
    have hx:v.l.sgs[k].pos=x:=oDt hd;have HE:Hid (z5k (v.l.sgs.map Sgn.pos) x=(k:Int)):=hE (y78 (by rw[gqE hlm];simp[hx]) HK.out);rw[hd] at hq;clear hx hd hA ho;generalize v.l.sgs[k]=q at *;go_wp2_with fail
    go_ret
    exact ⟨z0i HE.out.symm,hba.bel⟩
   | false=>
    have hx:¬v.l.sgs[k].pos=x:=of_decide_eq_false hd;have HN:=hE (j4d (x:=x) hlm HK.out (by simpa using hx));rw[hd] at hq;clear hx hd hA ho;generalize v.l.sgs[k]=q at *;go_wp2_with fail
    go_roundw
    case rel=>exact ⟨k+1,by omega,by go_num,hba,hxa,HN⟩
    case measure=>simp[intOf];omega
  ·have HE:=hE (x9t (x:=x) (l:=v.l.sgs.map Sgn.pos) (by simpa using hlt) HK.out);go_wp2_with fail
   go_ret;exact ⟨z0i HE.out.symm,hb.bel⟩
theorem y9n {l:Lay} {i:Nat} (h:i < l.els.length):z0d l i=l.els[i].sec:=by
 unfold z0d;rw[if_pos (by omega),Int.toNat_natCast,gqE h];rfl
theorem y67 {l:Lay} {i:Int} (h:i < 0∨(l.els.length:Int)≤i):z0d l i = -1:=by
 unfold z0d;split
 ·rw[List.getElem?_eq_none (by omega)];rfl
 ·rfl
theorem z3c (v:LV) (i:Int) (w:World) (hr:LvR w v):Calls Tryz.prog 18 #[lvA v,.int .i64 i] w fun e w'=>e=.returned (.int .i64 (z0d v.l i))∧Below w.heap.size w w':=by
 have hbx:=Lx.new hr;have hn:=hr.n2.1;unfold maxLen at hn;by_cases h0:i < 0
 ·have HS:=hE (y67 (l:=v.l) (Or.inl h0));unfold lvA;go_enter Tryz.func18,Tryz.ntmps18
  go_wp2_with fail;go_ret
  exact ⟨z0i HS.out.symm,hbx.bel⟩
 ·obtain ⟨k,rfl⟩:=Int.eq_ofNat_of_zero_le (show 0≤i by omega);by_cases hlt:k < v.l.els.length
  ·have HS:=hE (y9n hlt);have hki:(k:Int) < (v.l.els.length:Int):=by omega
   obtain ⟨b,off,hA,lb,ho,y0,y1,y2,y3,y4,y5,y6⟩:=hbx.rd.r2.elE hlt;unfold lvA z1c;rw[hA];unfold z1c at hbx y6;rw[hA] at hbx y6;clear y0 y1 y2 y3 y4 y5;go_enter Tryz.func18,Tryz.ntmps18
   go_wp2_with fail;go_ret
   exact ⟨z0i HS.out.symm,hbx.bel⟩
  ·have HS:=hE (y67 (l:=v.l) (i:=(k:Int)) (Or.inr (by omega)));have hge:(v.l.els.length:Int)≤(k:Int):=by omega
   unfold lvA;go_enter Tryz.func18,Tryz.ntmps18
   go_wp2_with fail;go_ret
   exact ⟨z0i HS.out.symm,hbx.bel⟩
theorem j5v {l:Lay} {e:z0o} (h:inB e.el 0 ((l.els.length:Int) - 1)=false):exB l e=false:=by
 have h2:¬(0≤e.el∧e.el≤(l.els.length:Int) - 1):=by rw[←z1f,h];simp
 unfold exB;rw[Bool.eq_false_iff];simp only[ne_eq,uT,dET];omega
theorem j5u {l:Lay} {e:z0o} {k:Nat} (hk:e.el=(k:Int)) (hlt:k < l.els.length):exB l e=inB e.sd 0 (z2k l.els[k].kind - 1):=by
 have e1:z0s l e.el=l.els[k].kind:=by
  unfold z0s;rw[hk,Int.toNat_natCast,gqE hlt];rfl
 unfold exB;rw[e1,Bool.eq_iff_iff,z1f];simp only[uT,dET];omega
theorem x9m (k:Int):0≤z2k k∧z2k k≤4:=by
 unfold z2k;repeat' split
 all_goals omega
theorem z3q (n lo hi:Int) (w:World):Calls Tryz.prog 114 #[.int .i64 n,.int .i64 lo,.int .i64 hi] w fun e w'=>e=.returned (.bool (inB n lo hi))∧w' = w:=(z4w n lo hi w).mono fun _ _ ⟨h1,h2⟩=>⟨h1,h2.symm⟩
theorem y2d (v:LV) (e:z0o) (w:World) (E:y6n w) (hr:LvR w v):Calls Tryz.prog 117 #[lvA v,.agg #[.int .i64 e.el,.int .i64 e.sd]] w fun x w'=>x=.returned (.bool (exB v.l e))∧Below w.heap.size w w':=by
 have hbx:=(Lx.new hr).alloc (.cells #[.int .i64 e.el,.int .i64 e.sd] 90);have hn:=hr.n2.1;unfold maxLen at hn;have hwl:IntKind.i64.wrap ((v.l.els.length:Int) - 1)=(v.l.els.length:Int) - 1:=IntWalk.i64_in _ (by omega)
 cases hc:inB e.el 0 ((v.l.els.length:Int) - 1) with
 | false=>
  have HX:=hE (j5v hc);unfold lvA;go_enter Tryz.func117,Tryz.ntmps117
  go_wp2_with fail
  (refine wp_region_quiet_lit (by kernel_rfl) (by kernel_rfl) ?_;(repeat (any_goals (first | go_big_quiet_step ((first | (go_at_call 114;exact Calls.quiet_of_same (z3q _ _ _ _)))) | quiet_step ((first | (go_at_call 114;exact Calls.quiet_of_same (z3q _ _ _ _)))) | (refine wpQuiet_step (fun K hK=>?_);go_simp;split <;> (refine hK _ ?_;clear hK K)))));all_goals (refine wpQuiet_nil ?_;intro _ hw';obtain ⟨nq,hw''⟩:=hw';subst hw''))
  all_goals (go_wp2_with fail)
  all_goals (go_ret;exact ⟨z0a HX.out.symm,blz⟩)
 | true=>
  have hr2:=z1f.1 hc;obtain ⟨k,hk⟩:=Int.eq_ofNat_of_zero_le hr2.1;have hlt:k < v.l.els.length:=by omega
  have hki:(k:Int) < (v.l.els.length:Int):=by omega
  have HX:=hE (j5u hk hlt);obtain ⟨b,off,hA,lb,ho,y0,y1,y2,y3,y4,y5,y6⟩:=hbx.rd.r2.elE hlt;have sb:=x9m v.l.els[k].kind;obtain ⟨sb1,sb2⟩:=sb;have hws:IntKind.i64.wrap (z2k v.l.els[k].kind - 1)=z2k v.l.els[k].kind - 1:=IntWalk.i64_in _ (by omega);have E1:=E.now hbx.bel;have hbb:=hbx.bel;obtain ⟨ee,es⟩:=e;simp only at hk hc hr2 HX hbx E1 hbb y1;subst hk;unfold lvA;(try unfold z1c at y1);(try unfold z1c at E1);(try unfold z1c at hbb);(try unfold z1c at ⊢);rw[hA] at y1 E1 hbb ⊢;clear y0 y2 y3 y4 y5 y6 hbx ho hr hr2 hA E;go_enter Tryz.func117,Tryz.ntmps117
  go_wp2_with fail
  (refine wp_region_quiet_lit (by kernel_rfl) (by kernel_rfl) ?_;(repeat (any_goals (first | go_big_quiet_step ((first | (go_at_call 114;exact Calls.quiet_of_same (z3q _ _ _ _)) | (go_at_call 85;exact Calls.quiet_of_same ((y0u _ _ (E1.now (Below.drewN bQ _))).mono fun _ _ ⟨h1,h2⟩=>⟨h1,h2.symm⟩)))) | quiet_step ((first | (go_at_call 114;exact Calls.quiet_of_same (z3q _ _ _ _)) | (go_at_call 85;exact Calls.quiet_of_same ((y0u _ _ (E1.now (Below.drewN bQ _))).mono fun _ _ ⟨h1,h2⟩=>⟨h1,h2.symm⟩)))) | (refine wpQuiet_step (fun K hK=>?_);go_simp;split <;> (refine hK _ ?_;clear hK K)))));all_goals (refine wpQuiet_nil ?_;intro _ hw';obtain ⟨nq,hw''⟩:=hw';subst hw''))
  all_goals (go_wp2_with fail)
  all_goals (go_ret;exact ⟨z0a HX.out.symm,blz⟩)
theorem y3k (v:LV) (w:World) (hr:LvR w v):Calls Tryz.prog 72 #[lvA v] w fun e w'=>e=.returned (.bool (y8g v.l))∧Below w.heap.size w w':=by
 have hbx:=Lx.new hr;have hb:=hbx.bel;have h1:=hr.n1.1;have h2:=hr.n2.1;have h4:=hr.n4.1;have h5:=hr.n5.1;unfold maxLen at h1 h2 h4 h5;have HC:Hid (y8g v.l=(inB v.l.els.length 1 32 && (inB v.l.secs.length 1 24 && (decide (v.l.sgs.length≤20) && decide (v.l.bls.length≤24))))):=hE rfl;clear hbx hr;unfold lvA;go_enter Tryz.func72,Tryz.ntmps72
 go_wp2_with (go_at_call 114;refine (z4w _ _ _ _).mono ?_;rintro e w' ⟨rfl,rfl⟩)
 all_goals (go_ret;refine ⟨z0a ?_,hb⟩;rw[HC.out];clear HC hb;first | (simp_all;done) | (rw[Bool.eq_iff_iff];simp_all;done) | (rw[Bool.eq_iff_iff];simp_all;omega))
def z4q (l:Lay) (i:Int):Nat→List Int
 | 0=>[]
 | k+1=>if ((l.els[k]?).map Elt.sec)=some i then z4q l i k++[(k:Int)] else z4q l i k
theorem y5o (l:Lay) (i:Int):∀ k,(z4q l i k).length≤k
 | 0=>by simp[z4q]
 | k+1=>by
  have:=y5o l i k;unfold z4q;split
  ·rw[qL];simp;omega
  ·omega
theorem y2o (l:Lay) (i:Nat):∀ k,k≤l.els.length→((z4q l i k).length=0↔((l.els.take k).any fun e=>decide (e.sec=(i:Int)))=false)
 | 0,_=>by simp[z4q]
 | k+1,hk=>by
  have ih:=y2o l i k (by omega);have hlt:k < l.els.length:=by omega
  unfold z4q;rw[gqE hlt,tqS hlt,List.any_append];simp only[Option.map_some,qE,List.any_cons,List.any_nil,Bool.or_false,Bool.or_eq_false_iff];split
  ·rename_i h;simp[h]
  ·rename_i h;rw[ih];simp[h]
theorem x1c (l:Lay) (i:Nat):decide ((z4q l i l.els.length).length=0) = !y6f l i:=by
 have h:=y2o l i l.els.length nL;rw[List.take_length] at h;unfold y6f
 cases hu:l.els.any fun e=>decide (e.sec=(i:Int)) with
 | true=>
  rw[hu] at h;simp at h
  simp[h]
 | false=>
  rw[hu] at h;simp at h;simp[h]
theorem j5z:(Tryz.prog.info? 3).map (fun i=>(i.zero,i.size,i.bytes))=some (some (.int .i64 0),1,8):=by kernel_rfl
def j0k (w:World) (n:Nat) (e:Ending) (w':World):Prop:=∃ A cap,e=.returned (.slice A n cap)∧Below w.heap.size w w'
theorem y7o (v:LV) (i:Nat) (hi:i < v.l.secs.length) (hm:v.l.els.length≤1000) (w:World) (hr:LvR w v):Calls Tryz.prog 116 #[lvA v,.int .i64 i] w (j0k w (z4q v.l i v.l.els.length).length):=by
 obtain ⟨i0,hi0,hz0,hz1,hz2⟩:=info_parts j5z;have HL:=hE fun k=>y5o v.l i k
 have hbx:=Lx.new hr;have h1:=hr.n1.1;unfold maxLen at h1;have hd1:decide ((i:Int) < 0)=false:=by simp
 have hd2:decide (v.l.secs.length≤i)=false:=by simp;omega
 unfold lvA;go_enter Tryz.func116,Tryz.ntmps116
 go_wp2_with fail;go_loopw [5,20] (fun s n wr=>∃ k:Nat,k≤v.l.els.length∧n=.int .i64 k∧z09 cI wr w.heap.size 3 s (z4q v.l i k) 0∧Lx w wr v) (fun _ n _=>v.l.els.length - (intOf n).toNat)
 case atStart=>exact ⟨0,nZ,rfl,z09.nil _ _ _ _ nZ,hbx⟩
 case round=>
  obtain ⟨k,hk,rfl,hown,hb⟩:=hrel;clear hbx;have hsz:=hb.bel.size;by_cases hlt:k < v.l.els.length
  ·have hki:(k:Int) < (v.l.els.length:Int):=by omega
   obtain ⟨b,off,hA,lb,ho,y0,y1,y2,y3,y4,y5,y6⟩:=hb.rd.r2.elE hlt;have hba:=hb.alloc (.cells #[.string (bs v.l.els[k].name),.int .i64 v.l.els[k].kind,.int .i64 v.l.els[k].len,.int .i64 v.l.els[k].grd,.int .i64 v.l.els[k].spd,.int .i64 v.l.els[k].slow,.int .i64 v.l.els[k].sec] 103);have hown1:=hown.alloc (.cells #[.string (bs v.l.els[k].name),.int .i64 v.l.els[k].kind,.int .i64 v.l.els[k].len,.int .i64 v.l.els[k].grd,.int .i64 v.l.els[k].spd,.int .i64 v.l.els[k].slow,.int .i64 v.l.els[k].sec] 103);have hsa:=hba.bel.size;rw[hA];have hm0:v.l.els[k]? = some v.l.els[k]:=gqE hlt;by_cases hx:v.l.els[k].sec=(i:Int)
   ·have HN:Hid (z4q v.l i (k+1)=z4q v.l i k++[(k:Int)]):=hE (by rw[z4q,hm0,if_pos (by simp[hx])]);have hkl:=HL.out k;have hxb:(v.l.els[k].sec==(i:Int))=true:=by simp[hx]
    clear hx hm0 hA ho;generalize v.l.els[k]=q at *;generalize hM:z4q v.l i k=ms at *;clear hM;go_wp2_with (at_builtin;go_loud (refine z0h (c:=cI) _ rfl _ _ 31 rfl w.heap.size 3 i0 _ 8 Tryz.underlying31 hi0 hz0 hz1 hz2 rfl (by decide) _ ms 0 rfl hown1 [_] (k:Int) ⟨rfl,by unfold z0p;omega⟩ (by simp[Value.oneCell']) _ (by simp[Act.eval]) (by omega) (by omega) (by simp;omega) ?_);intro v' w5 hown5 hf5 hs5)
    go_roundw
    case rel=>exact ⟨k+1,by omega,by go_num,by rw[HN.out];exact hown5,⟨hf5.keeps nL hsa hba.bel,hf5.blk hba.blk (by decide),hr.now (hf5.keeps nL hsa hba.bel)⟩⟩
    case measure=>simp[intOf];omega
   ·have HN:Hid (z4q v.l i (k+1)=z4q v.l i k):=hE (by rw[z4q,hm0,if_neg (by simp[hx])]);have hxb:(v.l.els[k].sec==(i:Int))=false:=by rw[beq_eq_false_iff_ne];exact hx
    clear hx hm0 hA ho;generalize v.l.els[k]=q at *;go_wp2_with fail
    go_roundw
    case rel=>exact ⟨k+1,by omega,by go_num,by rw[HN.out];exact hown1,hba⟩
    case measure=>simp[intOf];omega
  ·obtain rfl:k=v.l.els.length:=by omega
   obtain ⟨A',c',rfl,hcap,hrd⟩:=hown.y9l;go_wp2_with fail
   go_ret;exact ⟨A',c',rfl,hb.bel⟩
end Go.Proofs.YtpenlfedkacglaaGreatDoor
namespace Go.Proofs.YtpenlfedkacglaaGreatDoor
open Go.RowKit
open Go.Maps (Keyed)
attribute [local go_sem] z05 z07 z01 z02
attribute [-go_sem] run_equalIn_agg
theorem y9t {l:Lay}:j4t l=true↔∀ i,i < l.secs.length→y6f l i=true:=by
 unfold j4t;rw[laT];exact ⟨fun h i hi=>h i (List.mem_range.2 hi),fun h i hi=>h i (List.mem_range.1 hi)⟩
theorem j4g {l:Lay} {i:Nat} (hi:i < l.secs.length) (h:y6f l i=false):j4t l=false:=by
 rw[Bool.eq_false_iff];intro hu;rw[y9t.1 hu i hi] at h;cases h
theorem j2c (n:Nat):((n:Int)==0)=decide (n=0):=by
 rw[Bool.eq_iff_iff];simp
theorem z95 (v:LV) (hm:v.l.els.length≤1000) (w:World) (hr:LvR w v):Calls Tryz.prog 75 #[lvA v] w fun e w'=>e=.returned (.bool (j4t v.l))∧Below w.heap.size w w':=by
 have hbx:=Lx.new hr;have h1:=hr.n1.1;unfold maxLen at h1;have HM:=hE fun (i:Nat) (hi:i < v.l.secs.length) W (h:LvR W v)=>y7o v i hi hm W h
 have HU:=hE fun (i:Nat)=>(j2c (z4q v.l i v.l.els.length).length).trans (x1c v.l i)
 unfold lvA at HM ⊢;go_enter Tryz.func75,Tryz.ntmps75
 go_wp2_with fail;go_loopw [7] (fun n wr=>∃ k:Nat,k≤v.l.secs.length∧n=.int .i64 k∧Lx w wr v∧Hid (∀ i,i < k→y6f v.l i=true)) (fun n _=>v.l.secs.length - (intOf n).toNat)
 case atStart=>exact ⟨0,nZ,rfl,hbx,hE (fun i h=>absurd h (by omega))⟩
 case round=>
  obtain ⟨k,hk,rfl,hb,HK⟩:=hrel;clear hbx;by_cases hlt:k < v.l.secs.length
  ·have hki:(k:Int) < (v.l.secs.length:Int):=by omega
   have y0:=hb.x0;have y1:=hb.x1;have y2:=hb.x2;have y3:=hb.x3;have y4:=hb.x4;have y5:=hb.x5;have hmk:=HM.out k hlt wr hb.rd;have huk:=HU.out k
   cases hu:y6f v.l k with
   | false=>
    have HX:=hE (j4g hlt hu);rw[hu] at huk;clear hu;generalize (z4q v.l (k:Int) v.l.els.length).length=n at *;go_wp2_with fail
    refine hmk.mono ?_;rintro e w2 ⟨A2,c2,rfl,hb2⟩;go_wp2_with fail
    go_ret
    exact ⟨z0a HX.out.symm,(hb.now hb2).bel⟩
   | true=>
    have HN:Hid (∀ i,i < k+1→y6f v.l i=true):=hE (fun i hi=>by
     by_cases e:i=k
     ·rw[e];exact hu
     ·exact HK.out i (by omega))
    rw[hu] at huk;clear hu;generalize (z4q v.l (k:Int) v.l.els.length).length=n at *;go_wp2_with fail
    refine hmk.mono ?_;rintro e w2 ⟨A2,c2,rfl,hb2⟩;have hbn:=hb.now hb2;clear y0 y1 y2 y3 y4 y5;go_wp2_with fail
    go_roundw
    case rel=>exact ⟨k+1,by omega,by go_num,hbn,HN⟩
    case measure=>simp[intOf];omega
  ·have HX:=hE (y9t.2 (fun i hi=>HK.out i (by omega)));go_wp2_with fail
   go_ret;exact ⟨z0a HX.out.symm,hb.bel⟩
theorem z4i {α:Type} {p:α→Bool} {l:List α} {k:Nat} (h:k < l.length) (ha:(l.take k).all p=true) (hp:p l[k]=true):(l.take (k+1)).all p=true:=by
 rw[tqS h,List.all_append,ha];simp[hp]
theorem z5l {α:Type} {p:α→Bool} {l:List α} {k:Nat} (h:¬k < l.length) (ha:(l.take k).all p=true):l.all p=true:=by
 rwa [tlL (by omega)] at ha
theorem j1h (l:Lay) (e:Elt):x1v l e=(inB e.kind 1 3 && (inB e.len 500 1000000 && (inB e.grd (-50) 50 && (inB e.spd 100 10000 && (inB e.sec 0 ((l.secs.length:Int) - 1) && (if e.kind=2 then inB e.slow 100 e.spd else decide (e.slow=0))))))):=rfl
theorem y05 (v:LV) (w:World) (hr:LvR w v):Calls Tryz.prog 74 #[lvA v] w fun e w'=>e=.returned (.bool (v.l.els.all (x1v v.l)))∧Below w.heap.size w w':=by
  have hbx:=Lx.new hr
  have h1:=hr.n1.1
  have h2:=hr.n2.1
  unfold maxLen at h1 h2
  unfold lvA
  go_enter Tryz.func74,Tryz.ntmps74
  go_wp2_with fail
  go_loopw [8] (fun n wr=>∃ k:Nat,k≤v.l.els.length∧n=.int .i64 k∧Lx w wr v∧Hid ((v.l.els.take k).all (x1v v.l)=true)) (fun n _=>v.l.els.length - (intOf n).toNat)
  case atStart=>exact ⟨0,nZ,rfl,hbx,hE (by simp)⟩
  case round=>
    obtain ⟨k,hk,rfl,hb,HK⟩:=hrel
    clear hbx
    by_cases hlt:k < v.l.els.length
    · have hki:(k:Int) < (v.l.els.length:Int):=by omega
      obtain ⟨b,off,hA,lb,ho,y0,y1,y2,y3,y4,y5,y6⟩:=hb.rd.r2.elE hlt
      have hba:=hb.alloc (.cells #[.string (bs v.l.els[k].name),.int .i64 v.l.els[k].kind,.int .i64 v.l.els[k].len,.int .i64 v.l.els[k].grd,.int .i64 v.l.els[k].spd,.int .i64 v.l.els[k].slow,.int .i64 v.l.els[k].sec] 103)
      have x1:(wr.alloc (.cells #[.string (bs v.l.els[k].name),.int .i64 v.l.els[k].kind,.int .i64 v.l.els[k].len,.int .i64 v.l.els[k].grd,.int .i64 v.l.els[k].spd,.int .i64 v.l.els[k].slow,.int .i64 v.l.els[k].sec] 103)).cell? ⟨w.heap.size,1,none⟩=some (.slice v.A1 v.l.secs.length v.c1):=hba.x1
      have HE:=hE (j1h v.l v.l.els[k])
      have HNO:=hE fun h:x1v v.l v.l.els[k]=false=>z8n (p:=x1v v.l) hlt h
      have HYE:=hE fun h:x1v v.l v.l.els[k]=true=>z4i (p:=x1v v.l) hlt HK.out h
      rw[hA]
      clear hA ho HK
      generalize x1v v.l v.l.els[k]=bb at *
      generalize v.l.els[k]=q at *
      by_cases h2k:q.kind=2
      · have h2b:(q.kind==2)=true:=by simp[h2k]
        have h2n:(q.kind != 2)=false:=by simp[h2k]
        have HE2:Hid (bb=(inB q.kind 1 3 && (inB q.len 500 1000000 && (inB q.grd (-50) 50 && (inB q.spd 100 10000 && (inB q.sec 0 ((v.l.secs.length:Int) - 1) && inB q.slow 100 q.spd)))))):=hE (by rw[HE.out,if_pos h2k])
        clear h2k HE
        go_wp2_with (go_at_call 114;refine (z4w _ _ _ _).mono ?_;rintro e w' ⟨rfl,rfl⟩)
        all_goals first
          | (go_ret
             refine ⟨z0a ?_,hba.bel⟩
             rw[HNO.out (by rw[HE2.out];clear HE2 HNO HYE;simp_all;done)])
          | (go_roundw
             case rel=>exact ⟨k+1,by omega,by go_num,hba,hE (HYE.out (by rw[HE2.out];clear HE2 HNO HYE;simp_all;done))⟩
             case measure=>simp[intOf];omega)
      · have h2b:(q.kind==2)=false:=by simp[h2k]
        have h2n:(q.kind != 2)=true:=by simp[h2k]
        have HE2:Hid (bb=(inB q.kind 1 3 && (inB q.len 500 1000000 && (inB q.grd (-50) 50 && (inB q.spd 100 10000 && (inB q.sec 0 ((v.l.secs.length:Int) - 1) && decide (q.slow=0))))))):=hE (by rw[HE.out,if_neg h2k])
        clear h2k HE
        go_wp2_with (go_at_call 114;refine (z4w _ _ _ _).mono ?_;rintro e w' ⟨rfl,rfl⟩)
        all_goals first
          | (go_ret
             refine ⟨z0a ?_,hba.bel⟩
             rw[HNO.out (by rw[HE2.out];clear HE2 HNO HYE;simp_all;done)])
          | (go_roundw
             case rel=>exact ⟨k+1,by omega,by go_num,hba,hE (HYE.out (by rw[HE2.out];clear HE2 HNO HYE;simp_all;done))⟩
             case measure=>simp[intOf];omega)
    · have HX:=hE (z5l hlt HK.out)
      go_wp2_with fail
      go_ret
      exact ⟨z0a HX.out.symm,hb.bel⟩
end Go.Proofs.YtpenlfedkacglaaGreatDoor
