import Derived.Test.YtpenlfedkacglaaGreatDoorR02
import Derived.Lib.AppendZeros
import Derived.StillTailTactics
set_option maxRecDepth 100000
set_option maxHeartbeats 40000000
set_option linter.all false
namespace Go.Proofs.YtpenlfedkacglaaGreatDoor
open Go.RowKit
def j9g (x:Elt):List Value:=[.string (bs x.name),.int .i64 x.kind,.int .i64 x.len,.int .i64 x.grd,.int .i64 x.spd,.int .i64 x.slow,.int .i64 x.sec]
def j9f (x:Elt):Prop:=x.name.length≤maxLen∧z0p x.kind∧z0p x.len∧z0p x.grd∧z0p x.spd∧z0p x.slow∧z0p x.sec
def cE:Cod Elt where
 size:=7
 rd:=fun _ _ cs x=>cs=j9g x∧j9f x
 fit:=fun _=>True
 len:=fun h=>by rw[h.1];rfl
 keep:=fun h _=>h
 more:=fun h _=>h
def k00 (x:Jnt):List Value:=[.int .i64 x.a.el,.int .i64 x.a.sd,.int .i64 x.b.el,.int .i64 x.b.sd]
def j9i (x:Jnt):Prop:=x5o x.a∧x5o x.b
def cJ:Cod Jnt where
 size:=4
 rd:=fun _ _ cs x=>cs=k00 x∧j9i x
 fit:=fun _=>True
 len:=fun h=>by rw[h.1];rfl
 keep:=fun h _=>h
 more:=fun h _=>h
def k07 (x:Sgn):List Value:=[.string (bs x.name),.int .i64 x.pos.el,.int .i64 x.pos.sd,.int .i64 x.ovl]
def j8s (x:Sgn):Prop:=x.name.length≤maxLen∧x5o x.pos∧z0p x.ovl
def cSg:Cod Sgn where
 size:=4
 rd:=fun _ _ cs x=>cs=k07 x∧j8s x
 fit:=fun _=>True
 len:=fun h=>by rw[h.1];rfl
 keep:=fun h _=>h
 more:=fun h _=>h
def j9v (x:Bls):List Value:=[.int .i64 x.id,.int .i64 x.el,.int .i64 x.off]
def j9d (x:Bls):Prop:=z0p x.id∧z0p x.el∧z0p x.off
def cBl:Cod Bls where
 size:=3
 rd:=fun _ _ cs x=>cs=j9v x∧j9d x
 fit:=fun _=>True
 len:=fun h=>by rw[h.1];rfl
 keep:=fun h _=>h
 more:=fun h _=>h
section
variable {w:World} {S:Nat→Prop} {A:Option Addr}
theorem RdS.elE {l:List Elt} (h:RdS cE w S A l) {i:Nat} (hi:i < l.length) :
  ∃ b off,A=some ⟨b,off,none⟩∧S b∧j9f l[i]∧w.cell? ⟨b,off+i*7,none⟩=some (.string (bs l[i].name))∧w.cell? ⟨b,off+i*7+1,none⟩=some (.int .i64 l[i].kind)∧w.cell? ⟨b,off+i*7+2,none⟩=some (.int .i64 l[i].len)∧w.cell? ⟨b,off+i*7+3,none⟩=some (.int .i64 l[i].grd)∧w.cell? ⟨b,off+i*7+4,none⟩=some (.int .i64 l[i].spd)∧w.cell? ⟨b,off+i*7+5,none⟩=some (.int .i64 l[i].slow)∧w.cell? ⟨b,off+i*7+6,none⟩=some (.int .i64 l[i].sec):=by
 obtain ⟨b,off,h1,h2,h3⟩:=h (by omega);obtain ⟨ys,⟨rfl,h4⟩,h5⟩:=h3 i l[i] (gqE hi);exact ⟨b,off,h1,h2,h4,h5 0 _ rfl,h5 1 _ rfl,h5 2 _ rfl,h5 3 _ rfl,h5 4 _ rfl,h5 5 _ rfl,h5 6 _ rfl⟩
theorem RdS.elJ {l:List Jnt} (h:RdS cJ w S A l) {i:Nat} (hi:i < l.length) :
  ∃ b off,A=some ⟨b,off,none⟩∧S b∧j9i l[i]∧w.cell? ⟨b,off+i*4,none⟩=some (.int .i64 l[i].a.el)∧w.cell? ⟨b,off+i*4+1,none⟩=some (.int .i64 l[i].a.sd)∧w.cell? ⟨b,off+i*4+2,none⟩=some (.int .i64 l[i].b.el)∧w.cell? ⟨b,off+i*4+3,none⟩=some (.int .i64 l[i].b.sd):=by
 obtain ⟨b,off,h1,h2,h3⟩:=h (by omega);obtain ⟨ys,⟨rfl,h4⟩,h5⟩:=h3 i l[i] (gqE hi);exact ⟨b,off,h1,h2,h4,h5 0 _ rfl,h5 1 _ rfl,h5 2 _ rfl,h5 3 _ rfl⟩
theorem RdS.x2m {l:List Sgn} (h:RdS cSg w S A l) {i:Nat} (hi:i < l.length) :
  ∃ b off,A=some ⟨b,off,none⟩∧S b∧j8s l[i]∧w.cell? ⟨b,off+i*4,none⟩=some (.string (bs l[i].name))∧w.cell? ⟨b,off+i*4+1,none⟩=some (.int .i64 l[i].pos.el)∧w.cell? ⟨b,off+i*4+2,none⟩=some (.int .i64 l[i].pos.sd)∧w.cell? ⟨b,off+i*4+3,none⟩=some (.int .i64 l[i].ovl):=by
 obtain ⟨b,off,h1,h2,h3⟩:=h (by omega);obtain ⟨ys,⟨rfl,h4⟩,h5⟩:=h3 i l[i] (gqE hi);exact ⟨b,off,h1,h2,h4,h5 0 _ rfl,h5 1 _ rfl,h5 2 _ rfl,h5 3 _ rfl⟩
theorem RdS.elB {l:List Bls} (h:RdS cBl w S A l) {i:Nat} (hi:i < l.length) :
  ∃ b off,A=some ⟨b,off,none⟩∧S b∧j9d l[i]∧w.cell? ⟨b,off+i*3,none⟩=some (.int .i64 l[i].id)∧w.cell? ⟨b,off+i*3+1,none⟩=some (.int .i64 l[i].el)∧w.cell? ⟨b,off+i*3+2,none⟩=some (.int .i64 l[i].off):=by
 obtain ⟨b,off,h1,h2,h3⟩:=h (by omega);obtain ⟨ys,⟨rfl,h4⟩,h5⟩:=h3 i l[i] (gqE hi);exact ⟨b,off,h1,h2,h4,h5 0 _ rfl,h5 1 _ rfl,h5 2 _ rfl⟩
end
structure LV where
 l:Lay
 A1:Option Addr
 A2:Option Addr
 A3:Option Addr
 A4:Option Addr
 A5:Option Addr
 c1:Nat
 c2:Nat
 c3:Nat
 c4:Nat
 c5:Nat
abbrev z1b (v:LV):Array Value:=#[.string (bs v.l.name),.slice v.A1 v.l.secs.length v.c1,.slice v.A2 v.l.els.length v.c2,.slice v.A3 v.l.jts.length v.c3,.slice v.A4 v.l.sgs.length v.c4,.slice v.A5 v.l.bls.length v.c5]
def lvA (v:LV):Value:=.agg (z1b v)
structure LvR (w:World) (v:LV):Prop where
 nm:v.l.name.length≤maxLen
 r1:RdS cS w (Lt w) v.A1 v.l.secs
 r2:RdS cE w (Lt w) v.A2 v.l.els
 r3:RdS cJ w (Lt w) v.A3 v.l.jts
 r4:RdS cSg w (Lt w) v.A4 v.l.sgs
 r5:RdS cBl w (Lt w) v.A5 v.l.bls
 n1:v.l.secs.length≤maxLen∧v.l.secs.length≤v.c1
 n2:v.l.els.length≤maxLen∧v.l.els.length≤v.c2
 n3:v.l.jts.length≤maxLen∧v.l.jts.length≤v.c3
 n4:v.l.sgs.length≤maxLen∧v.l.sgs.length≤v.c4
 n5:v.l.bls.length≤maxLen∧v.l.bls.length≤v.c5
theorem LvR.now {w w':World} {v:LV} (h:LvR w v) (hb:Below w.heap.size w w'):LvR w' v:=
 ⟨h.nm,h.r1.now hb,h.r2.now hb,h.r3.now hb,h.r4.now hb,h.r5.now hb,h.n1,h.n2,h.n3,h.n4,h.n5⟩
structure Lx (w0 w:World) (v:LV):Prop where
 bel:Below w0.heap.size w0 w
 blk:Blk w w0.heap.size 28 (z1b v)
 rd:LvR w v
theorem Lx.new {w:World} {v:LV} (h:LvR w v):Lx w (w.alloc (.cells (z1b v) 28)) v:=
 have hb:=(Below.refl w.heap.size w).alloc nL (.cells (z1b v) 28)
 ⟨hb,Blk.new _ _ _ _ rfl,h.now hb⟩
section
variable {w0 w w':World} {v:LV}
theorem Lx.now (h:Lx w0 w v) (hb:Below w.heap.size w w'):Lx w0 w' v:=⟨z00 h.bel h.bel.size hb,h.blk.now hb,h.rd.now hb⟩
theorem Lx.alloc (h:Lx w0 w v) (o:Obj):Lx w0 (w.alloc o) v:=h.now (bQ.alloc nL o)
theorem Lx.drew (h:Lx w0 w v):Lx w0 w.drew v:=h.now bQ.drew
theorem Lx.lt (h:Lx w0 w v):w0.heap.size < w.heap.size:=h.blk.lt
theorem Lx.x0 (h:Lx w0 w v):w.cell? ⟨w0.heap.size,0,none⟩=some (.string (bs v.l.name)):=h.blk.cell 0
theorem Lx.x1 (h:Lx w0 w v):w.cell? ⟨w0.heap.size,1,none⟩=some (.slice v.A1 v.l.secs.length v.c1):=h.blk.cell 1
theorem Lx.x2 (h:Lx w0 w v):w.cell? ⟨w0.heap.size,2,none⟩=some (.slice v.A2 v.l.els.length v.c2):=h.blk.cell 2
theorem Lx.x3 (h:Lx w0 w v):w.cell? ⟨w0.heap.size,3,none⟩=some (.slice v.A3 v.l.jts.length v.c3):=h.blk.cell 3
theorem Lx.x4 (h:Lx w0 w v):w.cell? ⟨w0.heap.size,4,none⟩=some (.slice v.A4 v.l.sgs.length v.c4):=h.blk.cell 4
theorem Lx.x5 (h:Lx w0 w v):w.cell? ⟨w0.heap.size,5,none⟩=some (.slice v.A5 v.l.bls.length v.c5):=h.blk.cell 5
end
structure y6h (w:World):Prop extends EnvR w where
 sides:Lib.TabIs Tryz.prog w "signalling/rail.sides" .i64 [0,2,3,4]
theorem y6h.now {w w':World} (E:y6h w) (hb:Below w.heap.size w w'):y6h w':=⟨E.toEnvR.now hb,Lib.tabBelow_of_tabIs E.sides _ hb⟩
theorem x9a:Tryz.prog.stoodInHeld 90=false:=by kernel_rfl
theorem x2q (w:World) (d:Nat) (x y:z0o):(Op.equalIn (d+2) 90 (.agg #[.int .i64 x.el,.int .i64 x.sd]) (.agg #[.int .i64 y.el,.int .i64 y.sd])).run Tryz.prog w=.ok (decide (x=y)) w:=by
 have h3:=Tryz.underlying3;have hf:=fields_of Tryz.underlying90;rw[run_equalIn_struct w (d+1) 90 _ _ (by rw[hf,Tryz.underlying90]) x9a,hf];obtain ⟨x0,x1⟩:=x;obtain ⟨y0,y1⟩:=y;by_cases e0:x0=y0;case neg=>simp[go_sem,e0]
 subst e0;by_cases e1:x1=y1;case neg=>simp[go_sem,e1]
 subst e1;simp[go_sem]
end Go.Proofs.YtpenlfedkacglaaGreatDoor
namespace Go.Proofs.YtpenlfedkacglaaGreatDoor
open Go.RowKit
section
variable {P:Program} {ops:Array Oper} {Q:Exit→Act→World→Prop}
structure IvS (ops:Array Oper) (n1:Nat) (sl:Nat→Nat) (a0:Act) (W:World) (Pr:Nat→Value→World→Prop) (listed:Array Bool) (a:Act) (w:World):Prop where
 sz:listed.size=ops.size
 ts:a.tmps.size=a0.tmps.size
 df:a.defers=a0.defers
 keep:∀ s,s∉(List.range n1).map sl→a.eval (.tmp s)=a0.eval (.tmp s)
 bel:Below W.heap.size W w
 late:∀ j,n1≤j→listed[j]?≠some true
 cl:∀ (j:Nat),listed[j]? = some true→∀ (o:Oper),ops[j]? = some o→∀ e∈o.after,Region.binds .any e=true→listed[e.on]? = some true
 at_:∀ j,j < n1→listed[j]? = some true→Pr j (a.eval (.tmp (sl j))) w
def waits (ops:Array Oper) (j i:Nat):Bool:=((ops[j]?).map fun o=>o.after.any fun e=>e.on==i && Region.binds .any e).getD false
theorem y2s {j i:Nat} (h:waits ops j i=true):∃ o,ops[j]? = some o∧∃ e∈o.after,e.on=i∧Region.binds .any e=true:=by
 unfold waits at h
 cases ho:ops[j]? with
 | none=>rw[ho] at h;cases h
 | some o=>
  rw[ho] at h;simp only[Option.map_some,Option.getD_some] at h;obtain ⟨e,he,h6⟩:=x1t h;simp only[uT,beq_iff_eq] at h6;exact ⟨o,rfl,e,he,h6.1,h6.2⟩
def x1p (ops:Array Oper) (n1 m:Nat) (sl:Nat→Nat):Bool:=
 Down ops && (decide (n1≤ops.size) && ((List.range n1).all (fun i=>decide (sl i < m)) && ((List.range n1).all (fun i=>((ops[i]?).map fun o=>match o.dst with
  | none=>true
  | some d=>decide (d=sl i) && (List.range n1).all fun j=>decide (j=i) || (!decide (sl j=d) || waits ops j i)).getD false) &&
  (List.range ops.size).all fun i=>decide (i < n1) || (List.range n1).all fun j=>waits ops i j)))
theorem y7u {n1:Nat} {sl:Nat→Nat} {a0:Act} {W:World} (hsh:x1p ops n1 a0.tmps.size sl=true) (Pr:Nat→Value→World→Prop)
  (hstep:∀ i,i < n1→∀ a w,a.tmps.size=a0.tmps.size→a.defers=a0.defers→(∀ s,s∉(List.range n1).map sl→a.eval (.tmp s)=a0.eval (.tmp s))→Below W.heap.size W w→(∀ o,ops[i]? = some o→∀ e∈o.after,Region.binds .any e=true→Pr e.on (a.eval (.tmp (sl e.on))) w)→
   wpOp P ops Q i (fun a' w'=>(∃ y,a' = a.put ((ops[i]?).bind (·.dst)) y)∧Below W.heap.size W w'∧(∀ j y,j≠i→Pr j y w→Pr j y w')∧Pr i (a'.eval (.tmp (sl i))) w') a w)
  (hend:∀ a w,a.tmps.size=a0.tmps.size→a.defers=a0.defers→(∀ s,s∉(List.range n1).map sl→a.eval (.tmp s)=a0.eval (.tmp s))→Below W.heap.size W w→(∀ j,j < n1→Pr j (a.eval (.tmp (sl j))) w)→wpAny P .any ops Q (ops.size - n1) (y7c n1 ops.size) a w) :
  ∀ (fuel:Nat) (listed:Array Bool) (a:Act) (w:World),IvS ops n1 sl a0 W Pr listed a w→cntF listed=fuel→wpAny P .any ops Q fuel listed a w:=by
 simp only[x1p,uT,dET] at hsh;obtain ⟨hd,hn,hlt,hds,hph⟩:=hsh;have hltA:∀ j,j < n1→sl j < a0.tmps.size:=fun j hj=>by
  have:=List.all_eq_true.1 hlt j (List.mem_range.2 hj);simpa using this
 have hdA:∀ i,i < n1→∀ d,(ops[i]?).bind (·.dst)=some d→d=sl i∧∀ j,j < n1→j≠i→sl j=d→waits ops j i=true:=fun i hi d hod=>by
  have h1:=List.all_eq_true.1 hds i (List.mem_range.2 hi)
  cases ho:ops[i]? with
  | none=>rw[ho] at h1;cases h1
  | some o=>
   rw[ho] at h1 hod;simp only[Option.bind_some] at hod;simp only[Option.map_some,Option.getD_some,hod,uT,dET] at h1;refine ⟨h1.1,fun j hj hji hs=>?_⟩;have h2:=List.all_eq_true.1 h1.2 j (List.mem_range.2 hj);simpa [hji,hs] using h2
 have hf:∀ {listed:Array Bool} {i:Nat},listed.getD i true=false→listed[i]? = some false:=by
  intro listed i h;unfold Array.getD at h;split at h
  ·rename_i hi;rw[agE hi];exact congrArg some h
  ·cases h
 have ht:∀ {listed:Array Bool} {i:Nat},listed.getD i false=true→listed[i]? = some true:=by
  intro listed i h;unfold Array.getD at h;split at h
  ·rename_i hi;rw[agE hi];exact congrArg some h
  ·cases h
 have full:∀ (fuel:Nat) (listed:Array Bool) (a:Act) (w:World),IvS ops n1 sl a0 W Pr listed a w→cntF listed=fuel→(∀ j,j < n1→listed[j]? = some true)→wpAny P .any ops Q fuel listed a w:=by
  intro fuel listed a w hI hc hall;have hl:listed=y7c n1 ops.size:=by
   apply Array.ext
   ·unfold y7c;simp[hI.sz];omega
   ·intro j h1 h2;by_cases hj:j < n1
    ·have:=hall j hj;rw[agE h1] at this;rw[sJ this];unfold y7c;show true=(List.replicate n1 true++List.replicate (ops.size - n1) false)[j]'(by simp;omega);rw[List.getElem_append_left (by simpa using hj),List.getElem_replicate]
    ·have h3:=hI.late j (by omega);rw[agE h1] at h3;have h4:listed[j]=false:=by
      cases hv:listed[j] with
      | false=>rfl
      | true=>rw[hv] at h3;exact absurd rfl h3
     rw[h4];unfold y7c;have h9:j < ops.size:=by rw[←hI.sz];exact h1
     show false=(List.replicate n1 true++List.replicate (ops.size - n1) false)[j]'(by simp;omega);rw[List.getElem_append_right (by simp;omega),List.getElem_replicate]
  subst hl;rw[y8k] at hc;subst hc;exact hend a w hI.ts hI.df hI.keep hI.bel fun j hj=>hI.at_ j hj (hall j hj)
 intro fuel
 induction fuel with
 | zero=>
  intro listed a w hI hc;refine full 0 listed a w hI hc fun j hj=>?_
  have hjl:j < listed.size:=by rw[hI.sz];omega
  cases hv:listed[j] with
  | true=>rw[agE hjl,hv]
  | false=>exact (z9t hc (i:=j) (by rw[agE hjl,hv])).elim
 | succ fuel ih=>
  intro listed a w hI hc;by_cases hall:∀ j,j < n1→listed[j]? = some true
  ·exact full _ listed a w hI hc hall
  refine ⟨fun hr=>?_,fun i hi=>?_⟩
  ·exact absurd (fun j hj=>z9d hd hI.sz hr j (by omega)) hall
  ·obtain ⟨h1,h2,h3⟩:=z6i hi;have hlf:=hf h2;by_cases hin:i < n1
   ·refine wpOp_mono (fun a' w' h=>?_) (hstep i hin a w hI.ts hI.df hI.keep hI.bel fun o ho e he hb=>?_)
    ·obtain ⟨⟨y,rfl⟩,hb,hst,hy⟩:=h;have hother:∀ j,j < n1→j≠i→listed[j]? = some true→(a.put ((ops[i]?).bind (·.dst)) y).eval (.tmp (sl j))=a.eval (.tmp (sl j)):=fun j hj hji hl=>by
      cases hod:(ops[i]?).bind (·.dst) with
      | none=>rfl
      | some d=>
       obtain ⟨-,hw⟩:=hdA i hin d hod;refine z3e _ _ _ _ fun e=>?_
       obtain ⟨o,ho,e2,he2,he3,he4⟩:=y2s (hw j hj hji e.symm);have:=hI.cl j hl o ho e2 he2 he4;rw[he3,hlf] at this;cases this
     refine ih _ _ w' ⟨by rw[Array.size_setIfInBounds];exact hI.sz,by rw[z7n];exact hI.ts,?_,fun s hs=>?_,hb,fun j hj=>?_,fun j hl o ho e he hbe=>?_,fun j hj hl=>?_⟩ ?_
     ·cases (ops[i]?).bind (·.dst) <;> exact hI.df
     ·cases hod:(ops[i]?).bind (·.dst) with
      | none=>exact hI.keep s hs
      | some d=>
       obtain ⟨hde,-⟩:=hdA i hin d hod;rw[z3e _ _ _ _ (fun e=>hs (by rw[←e,hde];exact List.mem_map.2 ⟨i,List.mem_range.2 hin,rfl⟩))];exact hI.keep s hs
     ·rw[Array.getElem?_setIfInBounds_ne (by omega)];exact hI.late j hj
     ·by_cases ej:i=j
      ·subst ej;have:=ht (h3 o ho e he hbe);by_cases eo:i=e.on
       ·rw[←eo,hlf] at this;cases this
       ·rw[Array.getElem?_setIfInBounds_ne eo];exact this
      ·rw[Array.getElem?_setIfInBounds_ne ej] at hl;have:=hI.cl j hl o ho e he hbe;by_cases eo:i=e.on
       ·rw[←eo,hlf] at this;cases this
       ·rw[Array.getElem?_setIfInBounds_ne eo];exact this
     ·by_cases e:i=j
      ·subst e;exact hy
      ·rw[Array.getElem?_setIfInBounds_ne e] at hl;rw[hother j hj (fun q=>e q.symm) hl];exact hst j _ (fun q=>e q.symm) (hI.at_ j hj hl)
     ·have:=z9c hlf;omega
    ·have hon:=ht (h3 o ho e he hb);have hel:e.on < n1:=by
      by_cases q:e.on < n1
      ·exact q
      ·exact absurd hon (hI.late _ (by omega))
     exact hI.at_ _ hel hon
   ·exfalso;apply hall;intro j hj;have h4:=List.all_eq_true.1 hph i (List.mem_range.2 h1);simp only[Bool.or_eq_true,dET,hin,false_or] at h4;have h5:=List.all_eq_true.1 h4 j (List.mem_range.2 hj);obtain ⟨o,ho,e,he,rfl,hb⟩:=y2s h5;exact ht (h3 _ ho e he hb)
theorem y0v {id:Nat} {a0:Act} {W:World} (n1 n2 m:Nat) (sl:Nat→Nat) (L0:Array Bool) (hn:ops.size - n1=n2) (hL:y7c n1 ops.size=L0) (h0:a0.tmps.size=m) (hm:P.follows .mixedOrders=true) (hsh:x1p ops n1 m sl=true) (Pr:Nat→Value→World→Prop)
  (hstep:∀ i,i < n1→∀ a w,a.tmps.size=m→a.defers=a0.defers→(∀ s,s∉(List.range n1).map sl→a.eval (.tmp s)=a0.eval (.tmp s))→Below W.heap.size W w→(∀ o,ops[i]? = some o→∀ e∈o.after,Region.binds .any e=true→Pr e.on (a.eval (.tmp (sl e.on))) w)→
   wpOp P ops Q i (fun a' w'=>(∃ y,a' = a.put ((ops[i]?).bind (·.dst)) y)∧Below W.heap.size W w'∧(∀ j y,j≠i→Pr j y w→Pr j y w')∧Pr i (a'.eval (.tmp (sl i))) w') a w)
  (hend:∀ a w,a.tmps.size=m→a.defers=a0.defers→(∀ s,s∉(List.range n1).map sl→a.eval (.tmp s)=a0.eval (.tmp s))→Below W.heap.size W w→(∀ j,j < n1→Pr j (a.eval (.tmp (sl j))) w)→wpAny P .any ops Q n2 L0 a w) :
  (Code.region id ops true).wp P Q a0 W:=by
 subst hn hL h0;refine wp_region_any hm (y7u hsh Pr hstep hend _ _ _ _ ⟨by simp,rfl,rfl,fun _ _=>rfl,bQ.drew,fun j _ hl=>?_,fun j hl=>?_,fun j _ hl=>?_⟩ (by unfold cntF;simp));all_goals (rw[Array.getElem?_replicate] at hl;split at hl <;> cases hl)
theorem y1d {a:Act} {w:World} {i:Nat} {sl:Nat→Nat} {Pr:Nat→Value→World→Prop} (hd:∀ o,ops[i]? = some o→∀ e∈o.after,Region.binds .any e=true→Pr e.on (a.eval (.tmp (sl e.on))) w) {o:Oper} (ho:ops[i]? = some o) (j:Nat) {e:Edge} (he:o.after[j]? = some e) (hb:Region.binds .any e=true) {d s:Nat} (h1:e.on=d) (h2:sl d=s):Pr d (a.eval (.tmp s)) w:=by
 subst h1 h2;exact hd o ho e (Array.mem_of_getElem? he) hb
theorem x5p {a:Act} {w W:World} {j d:Nat} {op:Op} {ty:TypeId} {ps:String} {af:Array Edge} {g:Option (Nat × Bool)} {sl:Nat→Nat} {Pr:Nat→Value→World→Prop} (ho:ops[j]? = some (.mk (some d) op ty ps af g)) (hs:sl j=d) (hz:d < a.tmps.size) (hb:Below W.heap.size W w) (hst:∀ j y w w',Pr j y w→Below w.heap.size w w'→Pr j y w')
  (h:∀ K:Act→World→Prop,Hid (∀ y w',Below w.heap.size w w'→Pr j y w'→K (a.put (some d) y) w')→if Region.wanted (.mk (some d) op ty ps af g) (yielded ops a.tmps)=true then Oper.wp P (.mk (some d) op ty ps af g) a w K Q else K (a.put (some d) undef) w) :
  wpOp P ops Q j (fun a' w'=>(∃ y,a' = a.put ((ops[j]?).bind (·.dst)) y)∧Below W.heap.size W w'∧(∀ k y,k≠j→Pr k y w→Pr k y w')∧Pr j (a'.eval (.tmp (sl j))) w') a w:=
 z4b ho (h _ (hE fun y w' h1 h2=>⟨⟨y,by rw[ho];rfl⟩,z00 hb hb.size h1,fun k y' _ q=>hst k y' w w' q h1,by rw[hs,z9n _ _ _ hz];exact h2⟩))
theorem k08 {a:Act} {w W:World} {j:Nat} {op:Op} {ty:TypeId} {ps:String} {af:Array Edge} {g:Option (Nat × Bool)} {sl:Nat→Nat} {Pr:Nat→Value→World→Prop} (ho:ops[j]? = some (.mk none op ty ps af g))
  (h:∀ K:Act→World→Prop,Hid (∀ w',Below W.heap.size W w'→(∀ k y,k≠j→Pr k y w→Pr k y w')→Pr j (a.eval (.tmp (sl j))) w'→K (a.put none undef) w')→if Region.wanted (.mk none op ty ps af g) (yielded ops a.tmps)=true then Oper.wp P (.mk none op ty ps af g) a w K Q else K (a.put none undef) w) :
  wpOp P ops Q j (fun a' w'=>(∃ y,a' = a.put ((ops[j]?).bind (·.dst)) y)∧Below W.heap.size W w'∧(∀ k y,k≠j→Pr k y w→Pr k y w')∧Pr j (a'.eval (.tmp (sl j))) w') a w:=
 z4b ho (h _ (hE fun w' h1 h2 h3=>⟨⟨undef,by rw[ho];rfl⟩,h1,h2,h3⟩))
end
end Go.Proofs.YtpenlfedkacglaaGreatDoor
namespace Go.Proofs.YtpenlfedkacglaaGreatDoor
open Go.RowKit
attribute [local go_sem] z05 z09 z01 z02
attribute [-go_sem] run_equalIn_agg
theorem y0t (n c:Int) (w:World) (hc:c < 9223372036854775807):Calls Tryz.prog 52 #[.int .i64 n,.int .i64 c] w fun e w'=>e=.returned (.bool (inB n 0 (c - 1)))∧w=w':=by
 go_enter Tryz.func52,Tryz.ntmps52
 go_wp2;all_goals (go_ret;refine ⟨z0a ?_,rfl⟩;unfold inB;rw[Bool.eq_iff_iff];simp only[uT,dET,Bool.false_eq_true,true_iff,false_iff];omega)
theorem z1h {n c:Int} {b:Bool} (h:inB n 0 (c - 1)=b) (w:World) (hc:c < 9223372036854775807):Calls Tryz.prog 52 #[.int .i64 n,.int .i64 c] w fun e w'=>e=.returned (.bool b)∧w=w':=h▸y0t n c w hc
theorem z1s (n c:Int) (w:World) (hc:c < 9223372036854775807):Calls Tryz.prog 52 #[.int .i64 n,.int .i64 c] w fun e w'=>e=.returned (.bool (inB n 0 (c - 1)))∧w' = w:=(y0t n c w hc).mono fun _ _ ⟨h1,h2⟩=>⟨h1,h2.symm⟩
theorem x9h {α:Type} {l:List α} {k:Nat} {x:α} (hlt:k < l.length) (h:x∉l.take k) (hx:¬l[k]=x):x∉l.take (k+1):=by
 rw[tqS hlt];intro hm;rcases List.mem_append.1 hm with hm | hm
 ·exact h hm
 ·exact hx (List.mem_singleton.1 hm).symm
theorem x0h (l:List Int) (A:Option Addr) (cap:Nat) (x:Int) (w:World) (hr:RdS cI w (Lt w) A l) (hl:l.length≤maxLen) :
  Calls Tryz.prog 107 #[.slice A l.length cap,.int .i64 x] w fun e w'=>(∃ n:Int,e=.returned (.int .i64 n)∧(n < 0↔x∉l))∧w=w':=by
 unfold maxLen at hl;go_enter Tryz.func107,Tryz.ntmps107
 go_wp2;go_loop [8] (fun i=>∃ k:Nat,k≤l.length∧i=.int .i64 k∧Hid (x∉l.take k)) (fun i=>l.length - (intOf i).toNat)
 case atStart=>exact ⟨0,nZ,rfl,hE (by simp)⟩
 case round=>
  obtain ⟨k,hk,rfl,HK⟩:=hrel;by_cases hlt:k < l.length
  ·have hki:(k:Int) < (l.length:Int):=by omega
   obtain ⟨b,off,rfl,lb,ho,y0⟩:=hr.elI hlt;by_cases hx:l[k]=x
   ·have HE:Hid (x∈l):=hE (hx▸uE hlt);have hxb:(x==l[k])=true:=by simp[hx]
    clear hx hr ho;generalize l[k]=q at *;go_wp2_with fail
    go_ret;exact ⟨⟨(k:Int),rfl,⟨fun h=>by omega,fun h=>absurd HE.out h⟩⟩,rfl⟩
   ·have HN:=hE (x9h hlt HK.out hx);have hxb:(x==l[k])=false:=by rw[beq_eq_false_iff_ne];exact fun e=>hx e.symm
    clear hx hr ho;generalize l[k]=q at *;go_wp2_with fail
    go_round
    case rel=>exact ⟨k+1,by omega,by go_num,HN⟩
    case measure=>simp[intOf];omega
  ·have HE:Hid (x∉l):=hE (by
    have h1:=HK.out
    rwa [tlL (by omega)] at h1)
   go_wp2_with fail;go_ret
   exact ⟨⟨-1,rfl,⟨fun _=>HE.out,fun _=>by omega⟩⟩,rfl⟩
theorem x1e (v:z1q) (x:Int) (w:World) (hr:TvR w v):Calls Tryz.prog 60 #[tvA v,.int .i64 x] w fun e w'=>(∃ n:Int,e=.returned (.int .i64 n)∧(n < 0↔x∉v.t.pts))∧Below w.heap.size w w':=by
 have hb:=Bx.new hr;have x1:=hb.x1;have HI:=hE (x0h v.t.pts v.A2 v.c2 x _ hb.rd.r2 hr.n2.1);unfold tvA;go_enter Tryz.func60,Tryz.ntmps60
 go_wp2_with fail;refine HI.out.mono ?_;rintro e w1 ⟨⟨n,rfl,hn⟩,rfl⟩;have HN:=hE hn;clear hn x1;go_wp2_with fail
 go_ret;exact ⟨⟨n,rfl,HN.out⟩,hb.bel⟩
theorem x5w {a b:List Stg} {k:Nat} (hk:k < a.length) (h:(a.take k).all (fun x=>b.all fun y=>!(decide (x.el=y.el) && decide (x.pos≠y.pos)))=true) (h2:(b.all fun y=>!(decide (a[k].el=y.el) && decide (a[k].pos≠y.pos)))=true):(a.take (k+1)).all (fun x=>b.all fun y=>!(decide (x.el=y.el) && decide (x.pos≠y.pos)))=true:=z3v hk h h2
theorem j4v {a b:List Stg} {i j:Nat} (hi:i < a.length) (hj:j < b.length) (h1:a[i].el=b[j].el) (h2:a[i].pos≠b[j].pos):y0x a b=false:=by
 unfold y0x;exact z4n hi (z4n hj (by simp[h1,h2]))
theorem j4u {x:Stg} {b:List Stg} {j:Nat} (hj:j < b.length) (h:((b.take j).all fun y=>!(decide (x.el=y.el) && decide (x.pos≠y.pos)))=true) (h2:¬(x.el=b[j].el∧x.pos≠b[j].pos)):((b.take (j+1)).all fun y=>!(decide (x.el=y.el) && decide (x.pos≠y.pos)))=true:=
 z3v hj h (by
  rw[Bool.not_eq_true',Bool.and_eq_false_iff];by_cases he:x.el=b[j].el
  ·right;simp only[decide_eq_false_iff_not];exact fun hp=>h2 ⟨he,hp⟩
  ·left;simpa using he)
theorem y4f (a b:List Stg) (A B:Option Addr) (ca cb:Nat) (w:World) (ha:RdS z3h w (Lt w) A a) (hb:RdS z3h w (Lt w) B b) (la:a.length≤maxLen) (lb:b.length≤maxLen) :
  Calls Tryz.prog 56 #[.slice A a.length ca,.slice B b.length cb] w fun e w'=>e=.returned (.bool (y0x a b))∧Below w.heap.size w w':=by
 unfold maxLen at la lb;go_enter Tryz.func56,Tryz.ntmps56
 go_wp2_with fail;go_loopw [11] (fun n wr=>∃ k:Nat,k≤a.length∧n=.int .i64 k∧Below w.heap.size w wr∧Hid ((a.take k).all (fun x=>b.all fun y=>!(decide (x.el=y.el) && decide (x.pos≠y.pos)))=true)) (fun n _=>a.length - (intOf n).toNat)
 case atStart=>exact ⟨0,nZ,rfl,bQ,hE (by simp)⟩
 case round=>
  obtain ⟨k,hk,rfl,hbel,HK⟩:=hrel;by_cases hlt:k < a.length
  ·have hki:(k:Int) < (a.length:Int):=by omega
   obtain ⟨p1,o1,rfl,l1,-,y0,y1⟩:=(ha.now hbel).elG hlt;have hba:=hbel.alloc hbel.size (.cells #[.int .i64 a[k].el,.int .i64 a[k].pos] 78);have hx6:Blk (wr.alloc (.cells #[.int .i64 a[k].el,.int .i64 a[k].pos] 78)) wr.heap.size 78 #[.int .i64 a[k].el,.int .i64 a[k].pos]:=Blk.new _ _ _ _ rfl;have HST:=hE fun h2=>x5w (a:=a) (b:=b) hlt HK.out h2
   have HNO:=hE fun (j:Nat) (hj:j < b.length)=>j4v (a:=a) (b:=b) hlt hj
   clear HK ha;generalize a[k]=p at *;go_wp2_with fail
   generalize hw1:wr.alloc (.cells #[.int .i64 p.el,.int .i64 p.pos] 78)=w1 at *;generalize hg1:wr.heap.size=g1 at *;clear hw1 hbel y0 y1 l1;go_loopw [17] (fun n wr=>∃ j:Nat,j≤b.length∧n=.int .i64 j∧Below w.heap.size w wr∧Blk wr g1 78 #[.int .i64 p.el,.int .i64 p.pos]∧Hid (((b.take j).all fun y=>!(decide (p.el=y.el) && decide (p.pos≠y.pos)))=true)) (fun n _=>b.length - (intOf n).toNat)
   case atStart=>exact ⟨0,nZ,rfl,hba,hx6,hE (by simp)⟩
   case round=>
    clear hba hx6;obtain ⟨j,hj,rfl,hbel,hx,HJ⟩:=hrel;by_cases hltj:j < b.length
    ·have hji:(j:Int) < (b.length:Int):=by omega
     obtain ⟨p2,o2,rfl,l2,-,z0,z1⟩:=(hb.now hbel).elG hltj;have hba2:=hbel.alloc hbel.size (.cells #[.int .i64 b[j].el,.int .i64 b[j].pos] 78);have hxa:=hx.alloc (.cells #[.int .i64 b[j].el,.int .i64 b[j].pos] 78);have u0:=hxa.cell 0;have u1:=hxa.cell 1;simp only[gqA,gqZ,gqS] at u0 u1;have HIN:=hE fun h2=>j4u (x:=p) hltj HJ.out h2
     have HN2:=hE (HNO.out j hltj);by_cases he:p.el=b[j].el
     ·by_cases hp:p.pos=b[j].pos
      ·have HR:=hE (HIN.out fun h=>h.2 hp);have t1:(p.el==b[j].el)=true:=by simp[he]
       have t2:(p.pos != b[j].pos)=false:=by simp[hp]
       clear HIN HN2 HJ he hp;generalize b[j]=q at *;go_wp2_with fail
       go_roundw
       case rel=>exact ⟨j+1,by omega,by go_num,hba2,hxa,HR⟩
       case measure=>simp[intOf];omega
      ·have HR:=hE (HN2.out he hp);have t1:(p.el==b[j].el)=true:=by simp[he]
       have t2:(p.pos != b[j].pos)=true:=by simp[hp]
       clear HIN HN2 HJ he hp;generalize b[j]=q at *;go_wp2_with fail
       go_ret;exact ⟨z0a HR.out.symm,hba2⟩
     ·have HR:=hE (HIN.out fun h=>he h.1);have t1:(p.el==b[j].el)=false:=by simp[he]
      clear HIN HN2 HJ he;generalize b[j]=q at *;go_wp2_with fail
      go_roundw
      case rel=>exact ⟨j+1,by omega,by go_num,hba2,hxa,HR⟩
      case measure=>simp[intOf];omega
    ·have HR:=hE (HST.out (z7c hltj HJ.out));go_wp2_with fail
     go_roundw
     case rel=>exact ⟨k+1,by omega,by go_num,hbel,HR⟩
     case measure=>simp[intOf];omega
  ·have HR:Hid (y0x a b=true):=hE (z7c hlt HK.out);go_wp2_with fail
   go_ret;exact ⟨z0a HR.out.symm,hbel⟩
theorem z3b:(Tryz.prog.info? 3).map (fun i=>(i.zero,i.size,i.bytes))=some (some (.int .i64 0),1,8):=by kernel_rfl
theorem x5m (w:World) (e:TypeId) (n:Nat) (hn:n≤100000):(w.drew.alloc (.cells (Builtin.zeroCells #[.int .i64 0] n++Builtin.zeroCells #[.int .i64 0] (grownCap w n 0 e - n)) e)).ownsRow w.heap.size e 1 (.slice (some ⟨w.heap.size,0,none⟩) 0 (grownCap w n 0 e)) 0 []:=by
 have h1:=grownCap_ge w n 0 e;have h2:=grownCap_le_maxLen w n 0 e (by unfold maxLen;omega);refine ⟨by simp,Or.inr ⟨w.heap.size,_,_,rfl,nL,heap_alloc_new _ _,nZ,h2,?_,by simp⟩⟩;simp[size_zeroCells];omega
theorem x76 (n:Nat) (w:World) (hn:n≤100000) :
  Calls Tryz.prog 148 #[.slice none 0 0,.int .i64 n] w fun e w'=>∃ v,e=.returned v∧w'.ownsRow w.heap.size 3 1 v 0 []∧Below w.heap.size w w':=by
 obtain ⟨i0,hi0,hz0,hz1,hz2⟩:=info_parts z3b;by_cases h0:n=0
 ·subst h0;go_enter Tryz.func148,Tryz.ntmps148
  go_wp2_with fail;go_ret
  exact ⟨_,rfl,World.ownsRow_nil _ _ _ _,bQ⟩
 ·have h1:¬(n:Int) < 0:=by omega
  have h2:(0:Int) < (n:Int):=by omega
  have hrun:=Lib.run_append_nil_zeros (P:=Tryz.prog) w 31 3 31 3 i0 (.int .i64 0) .i64 .i64 Tryz.underlying31 Tryz.underlying3 hi0 hz0 n (by omega) (by omega) (by omega) (by rw[hz2];omega);have HO:=hE (x5m w 3 n hn);have HB:Hid (Below w.heap.size w (w.drew.alloc (.cells (Builtin.zeroCells #[.int .i64 0] n++Builtin.zeroCells #[.int .i64 0] (grownCap w n 0 3 - n)) 3))):=hE ((bQ.drew).alloc nL _);have HR:=hE hrun;clear hrun h0;go_enter Tryz.func148,Tryz.ntmps148
  go_wp2_with (at_builtin;go_loud (refine Lib.wpList_append_run _ rfl _ _ _ _ rfl _ _ (by rfl) (by rfl) _ _ HR.out ?_))
  go_ret;exact ⟨_,rfl,HO.out,HB.out⟩
theorem j9e {w:World} {S:Nat→Prop} {A:Option Addr} {ls:List (List Int)} (h:RdS (cL cI) w S A ls) {k:Nat} (hk:k < ls.length):∃ b off A' cap',A=some ⟨b,off,none⟩∧w.cell? ⟨b,off+k,none⟩=some (.slice A' ls[k].length cap')∧(ls[k].length≤maxLen∧ls[k].length≤cap')∧RdS cI w S A' ls[k]:=by
 obtain ⟨b,off,h1,h2⟩:=h.pick rfl;obtain ⟨u,h3,h4⟩:=h2 k _ (gqE hk);obtain ⟨A',cap',rfl,h5,h6⟩:=z7e h3;exact ⟨b,off,A',cap',(h1 (by omega)).1,h4,h5,h6⟩
theorem x7g (ys:List Value) (x:Int) {w:World} {S:Nat→Prop} (h:cI.rd w S ys x):∀ u∈ys,u.oneCell' = true:=by
 obtain ⟨rfl,_⟩:=h;intro u hu;simp only[List.mem_singleton] at hu;subst hu;rfl
def y8l (ls:List (List Int)) (k:Nat):Nat:=((ls.take k).map List.length).sum
theorem y03 {ls:List (List Int)} {k:Nat} (h:k < ls.length):y8l ls (k+1)=y8l ls k+ls[k].length:=by
 unfold y8l;rw[tqS h,List.map_append,List.sum_append];simp
theorem x3q (ls:List (List Int)) (b:Nat) (h:∀ l∈ls,l.length≤b):∀ k,k≤ls.length→y8l ls k≤k*b
 | 0,_=>by simp[y8l]
 | k+1,hk=>by
  have:=x3q ls b h k (by omega);have h2:=h _ (uE (show k < ls.length by omega));rw[y03 (by omega),Nat.succ_mul];omega
def flatK (ls:List (List Int)) (k:Nat):List Int:=(ls.take k).flatten
theorem x03 {ls:List (List Int)} {k:Nat} (h:k < ls.length):flatK ls (k+1)=flatK ls k++ls[k]:=by
 unfold flatK;rw[tqS h,List.flatten_append];simp
theorem x2w (ls:List (List Int)) (k:Nat):(flatK ls k).length=y8l ls k:=by unfold flatK y8l;rw[List.length_flatten]
theorem x2v {ls:List (List Int)} {k:Nat} (h:¬k < ls.length):flatK ls k=ls.flatten:=by unfold flatK;rw[tlL (by omega)]
theorem z81 (ls:List (List Int)) (A:Option Addr) (cap:Nat) (w:World) (hr:RdS (cL cI) w (Lt w) A ls) (hl:ls.length≤2) (hls:∀ l∈ls,l.length≤40000) :
  Calls Tryz.prog 102 #[.slice A ls.length cap] w fun e w'=>∃ v,e=.returned v∧y7v cI w' w.heap.size 3 v ls.flatten∧Below w.heap.size w w':=by
 obtain ⟨i0,hi0,hz0,hz1,hz2⟩:=info_parts z3b;have HS:=hE (x3q ls 40000 hls);have HL:=hE hls;clear hls;go_enter Tryz.func102,Tryz.ntmps102
 go_wp2_with fail;go_loopw [3,11] (fun s n wr=>∃ k:Nat,k≤ls.length∧n=.int .i64 k∧s=.int .i64 (y8l ls k:Nat)∧Hid (wr=w)) (fun _ n _=>ls.length - (intOf n).toNat)
 case atStart=>exact ⟨0,nZ,rfl,rfl,hE rfl⟩
 case round=>
  obtain ⟨k,hk,rfl,rfl,HW⟩:=hrel;have hw:=HW.out.symm;subst hw;by_cases hlt:k < ls.length
  ·have hki:(k:Int) < (ls.length:Int):=by omega
   obtain ⟨b,off,A',c',rfl,y0,hm,hr'⟩:=j9e hr hlt;have h1:=HS.out k hk;have h2:=HS.out (k+1) hlt;have h3:=y03 hlt;have hm1:=hm.1;generalize ls[k]=q at *;have HQ:Hid (((y8l ls k:Nat):Int)+(q.length:Int)=((y8l ls (k+1):Nat):Int)):=hE (by omega);clear h3 hm;obtain ⟨m1,hm1e⟩:∃ m,y8l ls (k+1)=m:=⟨_,rfl⟩
   rw[hm1e] at h2 HQ;have HM1:=hE hm1e;clear hm1e;generalize y8l ls k=m0 at *;have hm0:(m0:Int)≤90000:=by omega
   have hq0:(q.length:Int)≤100000:=by have:=HQ.out;omega
   have hneg:¬((m0:Int)+(q.length:Int) < 0):=by omega
   clear h1 h2;go_wp2_with fail
   go_round
   case rel=>exact ⟨k+1,by omega,by go_num,by rw[HM1.out,←HQ.out],hE (by first | rfl | trivial)⟩
   case measure=>simp[intOf];omega
  ·have hsl:=HS.out k hk;obtain ⟨m0,hm0⟩:∃ m,y8l ls k=m:=⟨_,rfl⟩
   rw[hm0] at hsl ⊢;have HM:Hid (m0=y8l ls k):=hE hm0.symm;have HKL:Hid (k=ls.length):=hE (by omega);have HG:=hE (x76 m0 w (by omega));clear hm0 hsl;go_wp2_with fail
   refine HG.out.mono ?_;rintro e w1 ⟨v1,rfl,hown1,hb1⟩;have hlow1:y7v cI w1 w.heap.size 3 v1 (flatK ls 0):=⟨[],hown1,rfl,hb1.size⟩
   have hr1:RdS (cL cI) w1 (fun b=>b < w.heap.size) A ls:=hr.keep fun p hp=>hb1.cell hp
   clear hown1 HG;go_wp2_with fail
   go_loopw [6,27] (fun v n wr=>∃ j:Nat,j≤ls.length∧n=.int .i64 j∧y7v cI wr w.heap.size 3 v (flatK ls j)∧Below w.heap.size w1 wr) (fun _ n _=>ls.length - (intOf n).toNat)
   case atStart=>exact ⟨0,nZ,rfl,hlow1,bQ⟩
   case round=>
    obtain ⟨j,hj,rfl,hlow,hb2⟩:=hrel;clear hlow1;by_cases hltj:j < ls.length
    ·have hji:(j:Int) < (ls.length:Int):=by omega
     obtain ⟨b,off,A',c',hA,y0,hm,hr'⟩:=j9e (hr1.low hb2) hltj;have HT:=hE (x03 hltj);have hq1:=HL.out _ (uE hltj);have hq2:=HS.out (j+1) hltj;have hq5:=y03 hltj;have hq3:=x2w ls j;have hq4:(flatK ls j).length+ls[j].length≤90000:=by omega
     rw[hA];clear hA hq2 hq3 hm hq5;generalize ls[j]=q at *;generalize flatK ls j=acc at *;go_wp2_with (at_builtin;go_loud (refine z3a (c:=cI) _ rfl _ _ 31 rfl w.heap.size 3 i0 _ 8 Tryz.underlying31 hi0 hz0 hz1 hz2 rfl (by decide) _ acc (by rfl) hlow A' c' q (by rfl) hr' (fun ys x h=>x7g ys x h) (by omega) (by omega) ?_);intro v5 w5 hlow5 hb5)
     go_roundw
     case rel=>exact ⟨j+1,by omega,by go_num,by rw[HT.out];exact hlow5,hb2.trans hb5⟩
     case measure=>simp[intOf];omega
    ·have HE:=hE (x2v hltj);rw[HE.out] at hlow;have HO:=hE hlow;have HB:=hE (hb1.trans hb2);clear hlow HE;go_wp2_with fail
     go_ret;exact ⟨_,rfl,HO.out,HB.out⟩
theorem z4u (n lo hi:Int) (w:World):Calls Tryz.prog 114 #[.int .i64 n,.int .i64 lo,.int .i64 hi] w fun e w'=>e=.returned (.bool (inB n lo hi))∧w=w':=by
 go_enter Tryz.func114,Tryz.ntmps114
 go_wp2;all_goals (go_ret;refine ⟨z0a ?_,rfl⟩;unfold inB;rw[Bool.eq_iff_iff];simp only[uT,dET,Bool.false_eq_true,true_iff,false_iff];omega)
theorem x5j {n lo hi:Int} {b:Bool} (h:inB n lo hi=b) (w:World):Calls Tryz.prog 114 #[.int .i64 n,.int .i64 lo,.int .i64 hi] w fun e w'=>e=.returned (.bool b)∧w' = w:=(z4u n lo hi w).mono fun _ _ ⟨h1,h2⟩=>⟨h▸h1,h2.symm⟩
theorem y0l (k:Int) (w:World) (E:y6h w):Calls Tryz.prog 85 #[.int .i64 k] w fun e w'=>e=.returned (.int .i64 (z2h k))∧w=w':=by
 have hg:Tryz.prog.globalNamed "signalling/rail.sides" = some 1:=by kernel_rfl
 have s0:w.cell? ⟨1,0,none⟩=some (.int .i64 0):=E.sides.cell hg 0 (by decide);have s1:w.cell? ⟨1,1,none⟩=some (.int .i64 2):=E.sides.cell hg 1 (by decide);have s2:w.cell? ⟨1,2,none⟩=some (.int .i64 3):=E.sides.cell hg 2 (by decide);have s3:w.cell? ⟨1,3,none⟩=some (.int .i64 4):=E.sides.cell hg 3 (by decide);by_cases h0:k < 0
 ·have HS:Hid (z2h k=0):=hE (by unfold z2h;rw[if_neg (by omega),if_neg (by omega),if_neg (by omega)]);go_enter Tryz.func85,Tryz.ntmps85
  go_wp2;go_ret
  exact ⟨z0i HS.out.symm,rfl⟩
 ·by_cases h4:4≤k
  ·have HS:Hid (z2h k=0):=hE (by unfold z2h;rw[if_neg (by omega),if_neg (by omega),if_neg (by omega)]);go_enter Tryz.func85,Tryz.ntmps85
   go_wp2;go_ret
   exact ⟨z0i HS.out.symm,rfl⟩
  ·have:k=0∨k=1∨k=2∨k=3:=by omega
   rcases this with rfl | rfl | rfl | rfl;all_goals (
    clear h0 h4;go_enter Tryz.func85,Tryz.ntmps85
    go_wp2;go_ret
    exact ⟨rfl,rfl⟩)
theorem j3x {α:Type} {l:List α} {k:Nat} {x:α} (hlt:k < l.length) (h:x∉l.take k) (hx:¬l[k]=x):x∉l.take (k+1):=by
 rw[tqS hlt];intro hm;rcases List.mem_append.1 hm with hm | hm
 ·exact h hm
 ·exact hx (List.mem_singleton.1 hm).symm
theorem x9g {α:Type} [DecidableEq α] {l:List α} {k:Nat} {x:α} (hlt:¬k < l.length) (h:x∉l.take k):z5l l x = -1:=by
 rw[tlL (by omega)] at h;exact j1o h
theorem z6j (v:LV) (x:z0o) (w:World) (hr:LvR w v):Calls Tryz.prog 118 #[lvA v,.agg #[.int .i64 x.el,.int .i64 x.sd]] w fun e w'=>e=.returned (.int .i64 (z5l (v.l.sgs.map Sgn.pos) x))∧Below w.heap.size w w':=by
 have hbx:=(Lx.new hr).alloc (.cells #[.int .i64 x.el,.int .i64 x.sd] 90);have hx1:Blk ((w.alloc (.cells (z1b v) 28)).alloc (.cells #[.int .i64 x.el,.int .i64 x.sd] 90)) (w.heap.size+1) 90 #[.int .i64 x.el,.int .i64 x.sd]:=Blk.new _ _ _ _ (by simp);have hn:=hr.n4.1;have HQ:=hE fun W (y:z0o)=>x2q W 9998 y x
 unfold maxLen at hn;unfold lvA;go_enter Tryz.func118,Tryz.ntmps118
 go_wp2_with fail;go_loopw [10] (fun i wr=>∃ k:Nat,k≤v.l.sgs.length∧i=.int .i64 k∧Lx w wr v∧Blk wr (w.heap.size+1) 90 #[.int .i64 x.el,.int .i64 x.sd]∧Hid (x∉(v.l.sgs.map Sgn.pos).take k)) (fun i _=>v.l.sgs.length - (intOf i).toNat)
 case atStart=>exact ⟨0,nZ,rfl,hbx,hx1,hE (by simp)⟩
 case round=>
  obtain ⟨k,hk,rfl,hb,hxb,HK⟩:=hrel;clear hbx hx1;have hsz:=hxb.lt;by_cases hlt:k < v.l.sgs.length
  ·have hki:(k:Int) < (v.l.sgs.length:Int):=by omega
   have hlm:k < (v.l.sgs.map Sgn.pos).length:=by simpa using hlt
   obtain ⟨b,off,hA,lb,ho,y0,y1,y2,y3⟩:=hb.rd.r4.x2m hlt;have hba:=hb.alloc (.cells #[.string (bs v.l.sgs[k].name),.int .i64 v.l.sgs[k].pos.el,.int .i64 v.l.sgs[k].pos.sd,.int .i64 v.l.sgs[k].ovl] 105);have hxa:=hxb.alloc (.cells #[.string (bs v.l.sgs[k].name),.int .i64 v.l.sgs[k].pos.el,.int .i64 v.l.sgs[k].pos.sd,.int .i64 v.l.sgs[k].ovl] 105);have z0:(wr.alloc (.cells #[.string (bs v.l.sgs[k].name),.int .i64 v.l.sgs[k].pos.el,.int .i64 v.l.sgs[k].pos.sd,.int .i64 v.l.sgs[k].ovl] 105)).cell? ⟨w.heap.size+1,0,none⟩=some (.int .i64 x.el):=hxa.cell 0;have z1:(wr.alloc (.cells #[.string (bs v.l.sgs[k].name),.int .i64 v.l.sgs[k].pos.el,.int .i64 v.l.sgs[k].pos.sd,.int .i64 v.l.sgs[k].ovl] 105)).cell? ⟨w.heap.size+1,1,none⟩=some (.int .i64 x.sd):=hxa.cell 1;rw[hA];have hq:=fun W=>HQ.out W v.l.sgs[k].pos
   cases hd:decide (v.l.sgs[k].pos=x) with
   | true=>
    have hx:v.l.sgs[k].pos=x:=oDt hd;have HE:Hid (z5l (v.l.sgs.map Sgn.pos) x=(k:Int)):=hE (x37 (by rw[gqE hlm];simp[hx]) HK.out);rw[hd] at hq;clear hx hd hA ho;generalize v.l.sgs[k]=q at *;go_wp2_with fail
    go_ret
    exact ⟨z0i HE.out.symm,hba.bel⟩
   | false=>
    have hx:¬v.l.sgs[k].pos=x:=of_decide_eq_false hd;have HN:=hE (j3x (x:=x) hlm HK.out (by simpa using hx));rw[hd] at hq;clear hx hd hA ho;generalize v.l.sgs[k]=q at *;go_wp2_with fail
    go_roundw
    case rel=>exact ⟨k+1,by omega,by go_num,hba,hxa,HN⟩
    case measure=>simp[intOf];omega
  ·have HE:=hE (x9g (x:=x) (l:=v.l.sgs.map Sgn.pos) (by simpa using hlt) HK.out);go_wp2_with fail
   go_ret;exact ⟨z0i HE.out.symm,hb.bel⟩
theorem y9d {l:Lay} {i:Nat} (h:i < l.els.length):z0d l i=l.els[i].sec:=by
 unfold z0d;rw[if_pos (by omega),Int.toNat_natCast,gqE h];rfl
theorem y5z {l:Lay} {i:Int} (h:i < 0∨(l.els.length:Int)≤i):z0d l i = -1:=by
 unfold z0d;split
 ·rw[List.getElem?_eq_none (by omega)];rfl
 ·rfl
theorem z2y (v:LV) (i:Int) (w:World) (hr:LvR w v):Calls Tryz.prog 18 #[lvA v,.int .i64 i] w fun e w'=>e=.returned (.int .i64 (z0d v.l i))∧Below w.heap.size w w':=by
 have hbx:=Lx.new hr;have hn:=hr.n2.1;unfold maxLen at hn;by_cases h0:i < 0
 ·have HS:=hE (y5z (l:=v.l) (Or.inl h0));unfold lvA;go_enter Tryz.func18,Tryz.ntmps18
  go_wp2_with fail;go_ret
  exact ⟨z0i HS.out.symm,hbx.bel⟩
 ·obtain ⟨k,rfl⟩:=Int.eq_ofNat_of_zero_le (show 0≤i by omega);by_cases hlt:k < v.l.els.length
  ·have HS:=hE (y9d hlt);have hki:(k:Int) < (v.l.els.length:Int):=by omega
   obtain ⟨b,off,hA,lb,ho,y0,y1,y2,y3,y4,y5,y6⟩:=hbx.rd.r2.elE hlt;unfold lvA z1b;rw[hA];unfold z1b at hbx y6;rw[hA] at hbx y6;clear y0 y1 y2 y3 y4 y5;go_enter Tryz.func18,Tryz.ntmps18
   go_wp2_with fail;go_ret
   exact ⟨z0i HS.out.symm,hbx.bel⟩
  ·have HS:=hE (y5z (l:=v.l) (i:=(k:Int)) (Or.inr (by omega)));have hge:(v.l.els.length:Int)≤(k:Int):=by omega
   unfold lvA;go_enter Tryz.func18,Tryz.ntmps18
   go_wp2_with fail;go_ret
   exact ⟨z0i HS.out.symm,hbx.bel⟩
theorem j5q {l:Lay} {e:z0o} (h:inB e.el 0 ((l.els.length:Int) - 1)=false):exB l e=false:=by
 have h2:¬(0≤e.el∧e.el≤(l.els.length:Int) - 1):=by rw[←z1d,h];simp
 unfold exB;rw[Bool.eq_false_iff];simp only[ne_eq,uT,dET];omega
theorem j5p {l:Lay} {e:z0o} {k:Nat} (hk:e.el=(k:Int)) (hlt:k < l.els.length):exB l e=inB e.sd 0 (z2h l.els[k].kind - 1):=by
 have e1:z0q l e.el=l.els[k].kind:=by
  unfold z0q;rw[hk,Int.toNat_natCast,gqE hlt];rfl
 unfold exB;rw[e1,Bool.eq_iff_iff,z1d];simp only[uT,dET];omega
theorem x94 (k:Int):0≤z2h k∧z2h k≤4:=by
 unfold z2h;repeat' split
 all_goals omega
theorem z3n (n lo hi:Int) (w:World):Calls Tryz.prog 114 #[.int .i64 n,.int .i64 lo,.int .i64 hi] w fun e w'=>e=.returned (.bool (inB n lo hi))∧w' = w:=(z4u n lo hi w).mono fun _ _ ⟨h1,h2⟩=>⟨h1,h2.symm⟩
theorem y1y (v:LV) (e:z0o) (w:World) (E:y6h w) (hr:LvR w v):Calls Tryz.prog 117 #[lvA v,.agg #[.int .i64 e.el,.int .i64 e.sd]] w fun x w'=>x=.returned (.bool (exB v.l e))∧Below w.heap.size w w':=by
 have hbx:=(Lx.new hr).alloc (.cells #[.int .i64 e.el,.int .i64 e.sd] 90);have hn:=hr.n2.1;unfold maxLen at hn;have hwl:IntKind.i64.wrap ((v.l.els.length:Int) - 1)=(v.l.els.length:Int) - 1:=IntWalk.i64_in _ (by omega)
 cases hc:inB e.el 0 ((v.l.els.length:Int) - 1) with
 | false=>
  have HX:=hE (j5q hc);unfold lvA;go_enter Tryz.func117,Tryz.ntmps117
  go_wp2_with fail
  (refine wp_region_quiet_lit (by kernel_rfl) (by kernel_rfl) ?_;(repeat (any_goals (first | go_big_quiet_step ((first | (go_at_call 114;exact Calls.quiet_of_same (z3n _ _ _ _)))) | quiet_step ((first | (go_at_call 114;exact Calls.quiet_of_same (z3n _ _ _ _)))) | (refine wpQuiet_step (fun K hK=>?_);go_simp;split <;> (refine hK _ ?_;clear hK K)))));all_goals (refine wpQuiet_nil ?_;intro _ hw';obtain ⟨nq,hw''⟩:=hw';subst hw''))
  all_goals (go_wp2_with fail)
  all_goals (go_ret;exact ⟨z0a HX.out.symm,blz⟩)
 | true=>
  have hr2:=z1d.1 hc;obtain ⟨k,hk⟩:=Int.eq_ofNat_of_zero_le hr2.1;have hlt:k < v.l.els.length:=by omega
  have hki:(k:Int) < (v.l.els.length:Int):=by omega
  have HX:=hE (j5p hk hlt);obtain ⟨b,off,hA,lb,ho,y0,y1,y2,y3,y4,y5,y6⟩:=hbx.rd.r2.elE hlt;have sb:=x94 v.l.els[k].kind;obtain ⟨sb1,sb2⟩:=sb;have hws:IntKind.i64.wrap (z2h v.l.els[k].kind - 1)=z2h v.l.els[k].kind - 1:=IntWalk.i64_in _ (by omega);have E1:=E.now hbx.bel;have hbb:=hbx.bel;obtain ⟨ee,es⟩:=e;simp only at hk hc hr2 HX hbx E1 hbb y1;subst hk;unfold lvA;(try unfold z1b at y1);(try unfold z1b at E1);(try unfold z1b at hbb);(try unfold z1b at ⊢);rw[hA] at y1 E1 hbb ⊢;clear y0 y2 y3 y4 y5 y6 hbx ho hr hr2 hA E;go_enter Tryz.func117,Tryz.ntmps117
  go_wp2_with fail
  (refine wp_region_quiet_lit (by kernel_rfl) (by kernel_rfl) ?_;(repeat (any_goals (first | go_big_quiet_step ((first | (go_at_call 114;exact Calls.quiet_of_same (z3n _ _ _ _)) | (go_at_call 85;exact Calls.quiet_of_same ((y0l _ _ (E1.now (Below.drewN bQ _))).mono fun _ _ ⟨h1,h2⟩=>⟨h1,h2.symm⟩)))) | quiet_step ((first | (go_at_call 114;exact Calls.quiet_of_same (z3n _ _ _ _)) | (go_at_call 85;exact Calls.quiet_of_same ((y0l _ _ (E1.now (Below.drewN bQ _))).mono fun _ _ ⟨h1,h2⟩=>⟨h1,h2.symm⟩)))) | (refine wpQuiet_step (fun K hK=>?_);go_simp;split <;> (refine hK _ ?_;clear hK K)))));all_goals (refine wpQuiet_nil ?_;intro _ hw';obtain ⟨nq,hw''⟩:=hw';subst hw''))
  all_goals (go_wp2_with fail)
  all_goals (go_ret;exact ⟨z0a HX.out.symm,blz⟩)
theorem y3e (v:LV) (w:World) (hr:LvR w v):Calls Tryz.prog 72 #[lvA v] w fun e w'=>e=.returned (.bool (y84 v.l))∧Below w.heap.size w w':=by
 have hbx:=Lx.new hr;have hb:=hbx.bel;have h1:=hr.n1.1;have h2:=hr.n2.1;have h4:=hr.n4.1;have h5:=hr.n5.1;unfold maxLen at h1 h2 h4 h5;have HC:Hid (y84 v.l=(inB v.l.els.length 1 32 && (inB v.l.secs.length 1 24 && (decide (v.l.sgs.length≤20) && decide (v.l.bls.length≤24))))):=hE rfl;clear hbx hr;unfold lvA;go_enter Tryz.func72,Tryz.ntmps72
 go_wp2_with (go_at_call 114;refine (z4u _ _ _ _).mono ?_;rintro e w' ⟨rfl,rfl⟩)
 all_goals (go_ret;refine ⟨z0a ?_,hb⟩;rw[HC.out];clear HC hb;first | (simp_all;done) | (rw[Bool.eq_iff_iff];simp_all;done) | (rw[Bool.eq_iff_iff];simp_all;omega))
def z4o (l:Lay) (i:Int):Nat→List Int
 | 0=>[]
 | k+1=>if ((l.els[k]?).map Elt.sec)=some i then z4o l i k++[(k:Int)] else z4o l i k
theorem y5d (l:Lay) (i:Int):∀ k,(z4o l i k).length≤k
 | 0=>by simp[z4o]
 | k+1=>by
  have:=y5d l i k;unfold z4o;split
  ·rw[qL];simp;omega
  ·omega
theorem y2j (l:Lay) (i:Nat):∀ k,k≤l.els.length→((z4o l i k).length=0↔((l.els.take k).any fun e=>decide (e.sec=(i:Int)))=false)
 | 0,_=>by simp[z4o]
 | k+1,hk=>by
  have ih:=y2j l i k (by omega);have hlt:k < l.els.length:=by omega
  unfold z4o;rw[gqE hlt,tqS hlt,List.any_append];simp only[Option.map_some,qE,List.any_cons,List.any_nil,Bool.or_false,Bool.or_eq_false_iff];split
  ·rename_i h;simp[h]
  ·rename_i h;rw[ih];simp[h]
theorem x0r (l:Lay) (i:Nat):decide ((z4o l i l.els.length).length=0) = !y69 l i:=by
 have h:=y2j l i l.els.length nL;rw[List.take_length] at h;unfold y69
 cases hu:l.els.any fun e=>decide (e.sec=(i:Int)) with
 | true=>
  rw[hu] at h;simp at h
  simp[h]
 | false=>
  rw[hu] at h;simp at h;simp[h]
theorem j5u:(Tryz.prog.info? 3).map (fun i=>(i.zero,i.size,i.bytes))=some (some (.int .i64 0),1,8):=by kernel_rfl
def j0d (w:World) (n:Nat) (e:Ending) (w':World):Prop:=∃ A cap,e=.returned (.slice A n cap)∧Below w.heap.size w w'
theorem y7g (v:LV) (i:Nat) (hi:i < v.l.secs.length) (hm:v.l.els.length≤1000) (w:World) (hr:LvR w v):Calls Tryz.prog 116 #[lvA v,.int .i64 i] w (j0d w (z4o v.l i v.l.els.length).length):=by
 obtain ⟨i0,hi0,hz0,hz1,hz2⟩:=info_parts j5u;have HL:=hE fun k=>y5d v.l i k
 have hbx:=Lx.new hr;have h1:=hr.n1.1;unfold maxLen at h1;have hd1:decide ((i:Int) < 0)=false:=by simp
 have hd2:decide (v.l.secs.length≤i)=false:=by simp;omega
 unfold lvA;go_enter Tryz.func116,Tryz.ntmps116
 go_wp2_with fail;go_loopw [5,20] (fun s n wr=>∃ k:Nat,k≤v.l.els.length∧n=.int .i64 k∧z07 cI wr w.heap.size 3 s (z4o v.l i k) 0∧Lx w wr v) (fun _ n _=>v.l.els.length - (intOf n).toNat)
 case atStart=>exact ⟨0,nZ,rfl,z07.nil _ _ _ _ nZ,hbx⟩
 case round=>
  obtain ⟨k,hk,rfl,hown,hb⟩:=hrel;clear hbx;have hsz:=hb.bel.size;by_cases hlt:k < v.l.els.length
  ·have hki:(k:Int) < (v.l.els.length:Int):=by omega
   obtain ⟨b,off,hA,lb,ho,y0,y1,y2,y3,y4,y5,y6⟩:=hb.rd.r2.elE hlt;have hba:=hb.alloc (.cells #[.string (bs v.l.els[k].name),.int .i64 v.l.els[k].kind,.int .i64 v.l.els[k].len,.int .i64 v.l.els[k].grd,.int .i64 v.l.els[k].spd,.int .i64 v.l.els[k].slow,.int .i64 v.l.els[k].sec] 103);have hown1:=hown.alloc (.cells #[.string (bs v.l.els[k].name),.int .i64 v.l.els[k].kind,.int .i64 v.l.els[k].len,.int .i64 v.l.els[k].grd,.int .i64 v.l.els[k].spd,.int .i64 v.l.els[k].slow,.int .i64 v.l.els[k].sec] 103);have hsa:=hba.bel.size;rw[hA];have hm0:v.l.els[k]? = some v.l.els[k]:=gqE hlt;by_cases hx:v.l.els[k].sec=(i:Int)
   ·have HN:Hid (z4o v.l i (k+1)=z4o v.l i k++[(k:Int)]):=hE (by rw[z4o,hm0,if_pos (by simp[hx])]);have hkl:=HL.out k;have hxb:(v.l.els[k].sec==(i:Int))=true:=by simp[hx]
    clear hx hm0 hA ho;generalize v.l.els[k]=q at *;generalize hM:z4o v.l i k=ms at *;clear hM;go_wp2_with (at_builtin;go_loud (refine z0g (c:=cI) _ rfl _ _ 31 rfl w.heap.size 3 i0 _ 8 Tryz.underlying31 hi0 hz0 hz1 hz2 rfl (by decide) _ ms 0 rfl hown1 [_] (k:Int) ⟨rfl,by unfold z0p;omega⟩ (by simp[Value.oneCell']) _ (by simp[Act.eval]) (by omega) (by omega) (by simp;omega) ?_);intro v' w5 hown5 hf5 hs5)
    go_roundw
    case rel=>exact ⟨k+1,by omega,by go_num,by rw[HN.out];exact hown5,⟨hf5.keeps nL hsa hba.bel,hf5.blk hba.blk (by decide),hr.now (hf5.keeps nL hsa hba.bel)⟩⟩
    case measure=>simp[intOf];omega
   ·have HN:Hid (z4o v.l i (k+1)=z4o v.l i k):=hE (by rw[z4o,hm0,if_neg (by simp[hx])]);have hxb:(v.l.els[k].sec==(i:Int))=false:=by rw[beq_eq_false_iff_ne];exact hx
    clear hx hm0 hA ho;generalize v.l.els[k]=q at *;go_wp2_with fail
    go_roundw
    case rel=>exact ⟨k+1,by omega,by go_num,by rw[HN.out];exact hown1,hba⟩
    case measure=>simp[intOf];omega
  ·obtain rfl:k=v.l.els.length:=by omega
   obtain ⟨A',c',rfl,hcap,hrd⟩:=hown.y9a;go_wp2_with fail
   go_ret;exact ⟨A',c',rfl,hb.bel⟩
theorem y94 {n k:Nat} {f:Nat→Bool} (hk:k < n) (h:f k=false):(List.range n).all f=false:=by
 rw[Bool.eq_false_iff];intro h2;rw[List.all_eq_true.1 h2 k (List.mem_range.2 hk)] at h;cases h
theorem y5x {n:Nat} {f:Nat→Bool} (h:∀ j,j < n→f j=true):(List.range n).all f=true:=List.all_eq_true.2 fun j hj=>h j (List.mem_range.1 hj)
theorem upto_succ {f:Nat→Bool} {k:Nat} (h:∀ j,j < k→f j=true) (h2:f k=true):∀ j,j < k+1→f j=true:=fun j hj=>by
 by_cases e:j=k
 ·exact e▸h2
 ·exact h j (by omega)
theorem getD_at {α:Type} {l:List α} {k:Nat} (h:k < l.length) (z:α):l.getD k z=l[k]:=by simp[List.getD,gqE h]
theorem j05 {t:Tab} {k:Nat} {q:Int} (h1:t.pts.getD k 0=q) (h:q < 0):ptB t k=false:=by unfold ptB;rw[h1,dFf (by omega)];rfl
theorem j6p {t:Tab} {k:Nat} {q p:Int} (h1:t.pts.getD (k+1) 0=q) (h2:t.pts.getD k 0=p) (h:q≤p):ptB t (k+1)=false:=by
 unfold ptB;rw[h1,Nat.add_sub_cancel,h2,dFf (show ¬k+1=0 by omega),dFf (show ¬p < q by omega)];simp
theorem j06 {t:Tab} {k:Nat} {m:Int} (h1:t.homes.getD k 0=m) (h:inB m 0 (t.nsec - 1)=false):ptB t k=false:=by unfold ptB;rw[h1,h];simp
theorem j2z {t:Tab} {q m:Int} (h1:t.pts.getD 0 0=q) (h2:t.homes.getD 0 0=m) (h3:¬q < 0) (h:inB m 0 (t.nsec - 1)=true):ptB t 0=true:=by unfold ptB;rw[h1,h2,h,dTt (show 0≤q by omega)];rfl
theorem j3a {t:Tab} {k:Nat} {q p m:Int} (h1:t.pts.getD (k+1) 0=q) (h2:t.pts.getD k 0=p) (h3:t.homes.getD (k+1) 0=m) (h4:¬q < 0) (h5:¬q≤p) (h:inB m 0 (t.nsec - 1)=true):ptB t (k+1)=true:=by
 unfold ptB;rw[h1,Nat.add_sub_cancel,h2,h3,h,dTt (show 0≤q by omega),dTt (show p < q by omega)];simp
theorem y0a (v:z1q) (w:World) (hr:TvR w v) (hs:v.t.nsec≤1000):Calls Tryz.prog 53 #[tvA v] w fun e w'=>e=.returned (.bool (y40 v.t))∧Below w.heap.size w w':=by
 have hbx:=Bx.new hr;have h1:=hr.n2.1;have h2:=hr.n3.1;unfold maxLen at h1 h2;by_cases hl:v.t.homes.length=v.t.pts.length;case neg=>
  have HX:Hid (y40 v.t=false):=hE (by unfold y40;rw[dFf hl];rfl);have hlb:((v.t.homes.length:Int) != (v.t.pts.length:Int))=true:=by simp;omega
  have x1:=hbx.x1;have x2:=hbx.x2;clear hl;unfold tvA;go_enter Tryz.func53,Tryz.ntmps53
  go_wp2_with fail;go_ret
  exact ⟨z0a HX.out.symm,hbx.bel⟩
 have HY:Hid (∀ k,k < v.t.pts.length→ptB v.t k=false→y40 v.t=false):=hE fun k hk h=>by unfold y40;rw[y94 hk h,Bool.and_false]
 have HZ:Hid ((∀ k,k < v.t.pts.length→ptB v.t k=true)→y40 v.t=true):=hE fun h=>by unfold y40;rw[y5x h,dTt hl];rfl
 have hlb:((v.t.homes.length:Int) != (v.t.pts.length:Int))=false:=by simp;omega
 have HL:=hE hl;have x1:=hbx.x1;have x2:=hbx.x2;clear hl;unfold tvA;go_enter Tryz.func53,Tryz.ntmps53
 go_wp2_with fail;clear x1 x2;go_loopw [15] (fun n wr=>∃ k:Nat,k≤v.t.pts.length∧n=.int .i64 k∧Bx w wr v∧Hid (∀ j,j < k→ptB v.t j=true)) (fun n _=>v.t.pts.length - (intOf n).toNat)
 case atStart=>exact ⟨0,nZ,rfl,hbx,hE (fun j hj=>absurd hj (Nat.not_lt_zero _))⟩
 case round=>
  obtain ⟨k,hk,rfl,hb,HK⟩:=hrel;clear hbx;by_cases hlt:k < v.t.pts.length
  ·have hki:(k:Int) < (v.t.pts.length:Int):=by omega
   have hlh:k < v.t.homes.length:=by have:=HL.out;omega
   have hkh:(k:Int) < (v.t.homes.length:Int):=by omega
   obtain ⟨b,off,hA,lb,ho,y0⟩:=hb.rd.r2.elI hlt;obtain ⟨b2,off2,hA2,lb2,ho2,z0⟩:=hb.rd.r3.elI hlh;have x1:=hb.x1;have x2:=hb.x2;have x3:=hb.x3;have HB:=hb.bel;have HNO:=hE (HY.out k hlt);have HGQ:=hE (getD_at hlt (0:Int));have HGM:=hE (getD_at hlh (0:Int));rw[hA2] at x2;by_cases hk0:k=0
   ·have hz0':¬(0:Int) < (k:Int):=by omega
    have hz0n:¬0 < k:=by omega
    have hz0e:(decide (0 < (k:Int)))=false:=by simp;omega
    clear hA2;rw[hA] at x1 ⊢;clear hA;generalize v.t.pts[k]=q at *;generalize v.t.homes[k]=m at *;have HK0:=hE hk0;clear hk0;by_cases c1:q < 0
    ·have HX:=hE (HNO.out (j05 HGQ.out c1));clear HNO HGQ HGM HK;go_wp2_with fail
     (refine wp_region_quiet_lit (by kernel_rfl) (by kernel_rfl) ?_;(repeat (any_goals (first | go_big_quiet_step ((first | (go_at_call 52;exact Calls.quiet_of_same (z1s _ _ _ (by omega))))) | quiet_step ((first | (go_at_call 52;exact Calls.quiet_of_same (z1s _ _ _ (by omega))))) | (refine wpQuiet_step (fun K hK=>?_);go_simp;split <;> (refine hK _ ?_;clear hK K)))));all_goals (refine wpQuiet_nil ?_;intro _ hw';obtain ⟨nq,hw''⟩:=hw';subst hw''))
     all_goals (go_wp2_with fail)
     all_goals (go_ret;exact ⟨z0a HX.out.symm,blz⟩)
    ·cases c3:inB m 0 (v.t.nsec - 1) with
     | false=>
      have HX:=hE (HNO.out (j06 HGM.out c3));clear HNO HGQ HGM HK;go_wp2_with fail
      (refine wp_region_quiet_lit (by kernel_rfl) (by kernel_rfl) ?_;(repeat (any_goals (first | go_big_quiet_step ((first | (go_at_call 52;exact Calls.quiet_of_same (z1s _ _ _ (by omega))))) | quiet_step ((first | (go_at_call 52;exact Calls.quiet_of_same (z1s _ _ _ (by omega))))) | (refine wpQuiet_step (fun K hK=>?_);go_simp;split <;> (refine hK _ ?_;clear hK K)))));all_goals (refine wpQuiet_nil ?_;intro _ hw';obtain ⟨nq,hw''⟩:=hw';subst hw''))
      all_goals (go_wp2_with fail)
      all_goals (go_ret;exact ⟨z0a HX.out.symm,blz⟩)
     | true=>
      have HX:=hE (upto_succ HK.out (by have e:=HK0.out;subst e;exact j2z HGQ.out HGM.out c1 c3));clear HNO HGQ HGM HK;go_wp2_with fail
      (refine wp_region_quiet_lit (by kernel_rfl) (by kernel_rfl) ?_;(repeat (any_goals (first | go_big_quiet_step ((first | (go_at_call 52;exact Calls.quiet_of_same (z1s _ _ _ (by omega))))) | quiet_step ((first | (go_at_call 52;exact Calls.quiet_of_same (z1s _ _ _ (by omega))))) | (refine wpQuiet_step (fun K hK=>?_);go_simp;split <;> (refine hK _ ?_;clear hK K)))));all_goals (refine wpQuiet_nil ?_;intro _ hw';obtain ⟨nq,hw''⟩:=hw';subst hw''))
      all_goals (go_wp2_with fail)
      all_goals go_roundw
      case rel=>exact ⟨k+1,by omega,by go_num,hb.now (Below.drewN bQ _),HX⟩
      case measure=>simp[intOf];omega
   ·obtain ⟨j,hj⟩:∃ j,k=j+1:=⟨k - 1,by omega⟩
    have hz0':(0:Int) < (k:Int):=by omega
    have hltp:j < v.t.pts.length:=by omega
    have hkp:(j:Int) < (v.t.pts.length:Int):=by omega
    obtain ⟨b',off',hA',_,ho',u0⟩:=hb.rd.r2.elI hltp;obtain ⟨rfl,rfl⟩:b=b'∧off=off':=by rw[hA] at hA';simp only[qE,Addr.mk.injEq] at hA';exact ⟨hA'.1,hA'.2.1⟩
    have HGP:=hE (getD_at hltp (0:Int));rw[show off+j=off+(k - 1) by omega] at u0;have hwk:IntKind.i64.wrap ((k:Int) - 1)=(k:Int) - 1:=IntWalk.i64_in _ (by omega);have HJ:=hE hj;clear hA2 hk0;rw[hA] at x1 ⊢;clear hA hA' ho' hj;generalize v.t.pts[k]=q at *;generalize v.t.pts[j]=p at *;generalize v.t.homes[k]=m at *;by_cases c1:q < 0
    ·have HX:=hE (HNO.out (j05 HGQ.out c1));clear HNO HGQ HGM HK;go_wp2_with fail
     (refine wp_region_quiet_lit (by kernel_rfl) (by kernel_rfl) ?_;(repeat (any_goals (first | go_big_quiet_step ((first | (go_at_call 52;exact Calls.quiet_of_same (z1s _ _ _ (by omega))))) | quiet_step ((first | (go_at_call 52;exact Calls.quiet_of_same (z1s _ _ _ (by omega))))) | (refine wpQuiet_step (fun K hK=>?_);go_simp;split <;> (refine hK _ ?_;clear hK K)))));all_goals (refine wpQuiet_nil ?_;intro _ hw';obtain ⟨nq,hw''⟩:=hw';subst hw''))
     all_goals (go_wp2_with fail)
     all_goals (go_ret;exact ⟨z0a HX.out.symm,blz⟩)
    ·by_cases c2:q≤p
     ·have HX:=hE (HNO.out (by have e:=HJ.out;subst e;exact j6p HGQ.out HGP.out c2));clear HNO HGQ HGM HK;go_wp2_with fail
      (refine wp_region_quiet_lit (by kernel_rfl) (by kernel_rfl) ?_;(repeat (any_goals (first | go_big_quiet_step ((first | (go_at_call 52;exact Calls.quiet_of_same (z1s _ _ _ (by omega))))) | quiet_step ((first | (go_at_call 52;exact Calls.quiet_of_same (z1s _ _ _ (by omega))))) | (refine wpQuiet_step (fun K hK=>?_);go_simp;split <;> (refine hK _ ?_;clear hK K)))));all_goals (refine wpQuiet_nil ?_;intro _ hw';obtain ⟨nq,hw''⟩:=hw';subst hw''))
      all_goals (go_wp2_with fail)
      all_goals (go_ret;exact ⟨z0a HX.out.symm,blz⟩)
     ·cases c3:inB m 0 (v.t.nsec - 1) with
      | false=>
       have HX:=hE (HNO.out (j06 HGM.out c3));clear HNO HGQ HGM HK;go_wp2_with fail
       (refine wp_region_quiet_lit (by kernel_rfl) (by kernel_rfl) ?_;(repeat (any_goals (first | go_big_quiet_step ((first | (go_at_call 52;exact Calls.quiet_of_same (z1s _ _ _ (by omega))))) | quiet_step ((first | (go_at_call 52;exact Calls.quiet_of_same (z1s _ _ _ (by omega))))) | (refine wpQuiet_step (fun K hK=>?_);go_simp;split <;> (refine hK _ ?_;clear hK K)))));all_goals (refine wpQuiet_nil ?_;intro _ hw';obtain ⟨nq,hw''⟩:=hw';subst hw''))
       all_goals (go_wp2_with fail)
       all_goals (go_ret;exact ⟨z0a HX.out.symm,blz⟩)
      | true=>
       have HX:=hE (upto_succ HK.out (by have e:=HJ.out;subst e;exact j3a HGQ.out HGP.out HGM.out c1 c2 c3));clear HNO HGQ HGM HK;go_wp2_with fail
       (refine wp_region_quiet_lit (by kernel_rfl) (by kernel_rfl) ?_;(repeat (any_goals (first | go_big_quiet_step ((first | (go_at_call 52;exact Calls.quiet_of_same (z1s _ _ _ (by omega))))) | quiet_step ((first | (go_at_call 52;exact Calls.quiet_of_same (z1s _ _ _ (by omega))))) | (refine wpQuiet_step (fun K hK=>?_);go_simp;split <;> (refine hK _ ?_;clear hK K)))));all_goals (refine wpQuiet_nil ?_;intro _ hw';obtain ⟨nq,hw''⟩:=hw';subst hw''))
       all_goals (go_wp2_with fail)
       all_goals go_roundw
       case rel=>exact ⟨k+1,by omega,by go_num,hb.now (Below.drewN bQ _),HX⟩
       case measure=>simp[intOf];omega
  ·have HX:=hE (HZ.out fun j hj=>HK.out j (by omega));go_wp2_with fail
   go_ret;exact ⟨z0a HX.out.symm,hb.bel⟩
end Go.Proofs.YtpenlfedkacglaaGreatDoor
