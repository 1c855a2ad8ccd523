import Derived.Test.YtpenlfedkacglaaGreatDoorR11
set_option maxRecDepth 100000
set_option maxHeartbeats 40000000
set_option linter.all false
namespace Go.Proofs.YtpenlfedkacglaaGreatDoor
open Go.RowKit
def x1l {α:Type} (xs:List α) (o:Nat) (vs:List α):List α:=xs.take o++(vs++xs.drop (o+vs.length))
theorem y92 {α:Type} {xs:List α} {o:Nat} {vs:List α} (h:o+vs.length≤xs.length):(x1l xs o vs).length=xs.length:=by
 unfold x1l;rw[qL,qL,lTk,List.length_drop];omega
theorem z9m {α:Type} {xs:List α} {o:Nat} {vs:List α} (h:o+vs.length≤xs.length) (i:Nat):(x1l xs o vs)[i]? = if o≤i∧i < o+vs.length then vs[i - o]? else xs[i]?:=by
 unfold x1l;by_cases h1:i < o
 ·rw[if_neg (by omega),List.getElem?_append_left (by rw[lTk];omega),List.getElem?_take_of_lt h1]
 ·rw[List.getElem?_append_right (by rw[lTk];omega),lTk,Nat.min_eq_left (by omega)];by_cases h2:i < o+vs.length
  ·rw[if_pos ⟨by omega,h2⟩,List.getElem?_append_left (by omega)]
  ·rw[if_neg (by omega),List.getElem?_append_right (by omega),List.getElem?_drop];congr 1;omega
theorem x4n {α:Type} {xs:List α} {o:Nat} {v:α} {r:List α} (h:o+(v::r).length≤xs.length):x1l (xs.set o v) (o+1) r=x1l xs o (v::r):=by
 have h':=h;simp only[lCn] at h';apply List.ext_getElem?;intro i;rw[z9m h,z9m (by rw[List.length_set];omega),lCn];by_cases h2:i=o
 ·subst h2;rw[if_neg (by omega),if_pos ⟨nL,by omega⟩,Nat.sub_self,List.getElem?_set_self (by omega)];rfl
 ·rw[List.getElem?_set_ne (fun e=>h2 e.symm)];by_cases h3:o+1≤i∧i < o+1+r.length
  ·rw[if_pos h3,if_pos ⟨by omega,by omega⟩,show i - o=(i - (o+1))+1 by omega];rfl
  ·rw[if_neg h3,if_neg (by omega)]
theorem z3y {b:Nat} {T:TypeId} {fr:Nat × Nat}:∀ (vs:List Value) (o:Nat) {w:World} {cur:Array Value},w.heap[b]? = some (.cells cur T fr)→o+vs.length≤cur.size→∃ cur':Array Value,(w.setCells b o vs).heap[b]? = some (.cells cur' T fr)∧cur'.toList=x1l cur.toList o vs
 | [],o,w,cur,h,_=>⟨cur,h,by simp[x1l]⟩
 | v::r,o,w,cur,h,hl=>by
  simp only[lCn] at hl;obtain ⟨cur',h1,h2⟩:=z3y r (o+1) (z2w (j:=o) (u:=v) h) (by simp;omega);refine ⟨cur',h1,?_⟩;rw[h2,Array.toList_setIfInBounds,x4n (by simp;omega)]
theorem z0j {w:World} {base b:Nat} {T:TypeId}:∀ (vs:List Value) (o:Nat) {w:World} {cur:Array Value},w.heap[b]? = some (.cells cur T (0,0))→base≤b→Frm base T w (w.setCells b o vs)
 | [],_,_,_,_,_=>Frm.refl _ _ _
 | v::r,o,_,_,h,hb=>(y3k h hb o v).trans (z0j (w:=w) r (o+1) (z2w h) hb)
theorem x4p {α:Type} {c:Cod α} {w:World} {S:Nat→Prop}:∀ {l:List α} {xs:List Value} {k:Nat} {ys:List Value} {y:α},RdC c w S xs l→k < l.length→c.rd w S ys y→RdC c w S (x1l xs (k*c.size) ys) (l.set k y)
 | a::l,xs,0,ys,y,⟨y0,z0,h1,h2,h3⟩,_,hy=>by
  have e1:=c.len h2;have e2:=c.len hy;refine ⟨ys,z0,?_,hy,h3⟩;subst h1;unfold x1l
  rw[Nat.zero_mul,List.take_zero,List.nil_append,Nat.zero_add,e2,←e1,List.drop_left]
 | a::l,xs,k+1,ys,y,⟨y0,z0,h1,h2,h3⟩,hk,hy=>by
  have e1:=c.len h2;have ih:=x4p (k:=k) h3 (by simpa using hk) hy;refine ⟨y0,_,?_,h2,ih⟩;subst h1;unfold x1l;rw[Nat.succ_mul,Nat.add_comm (k*c.size) c.size,←e1,List.take_append,List.drop_append];rw[tlL (by omega),Nat.add_sub_cancel_left,List.drop_of_length_le (by omega),List.nil_append,List.append_assoc];congr 4;omega
theorem x4g {α:Type} {c:Cod α} (hc:Flat c) {w:World} {base g cap k:Nat} {e:TypeId} {l:List α} {ys:List Value} {y:α} (h:z07 c w base e (.slice (some ⟨g,0,none⟩) l.length cap) l 0) (hk:k < l.length) (hy:∀ w S,c.rd w S ys y) :
  z07 c (w.setCells g (k*c.size) ys) base e (.slice (some ⟨g,0,none⟩) l.length cap) (l.set k y) 0∧Frm base e w (w.setCells g (k*c.size) ys):=by
 obtain ⟨xs,h1,h2,h3⟩:=h;have hyl:=c.len (hy w (fun _=>True));rcases h1.2 with ⟨hv,_⟩ | ⟨g',cap',cur,hv,hb,hg,hcap,hm,hsz,ht⟩
 ·cases hv
 ·simp only[Value.slice.injEq,qE,Addr.mk.injEq,and_true] at hv;obtain ⟨rfl,-,rfl⟩:=hv;have hle:k*c.size+ys.length≤l.length*c.size:=by
   rw[hyl];have:=Nat.mul_le_mul_right c.size (show k+1≤l.length from hk);rw[Nat.succ_mul] at this;exact this
  have hle2:l.length*c.size≤cap*c.size:=Nat.mul_le_mul_right _ hcap;obtain ⟨cur',h4,h5⟩:=z3y ys (k*c.size) hg (by omega);have hx:cur.toList.take (l.length*c.size)=xs:=ht;have hxl:xs.length=l.length*c.size:=h1.1;have hcl:cur.toList.length=cap*c.size:=by simpa using hsz
  refine ⟨⟨x1l xs (k*c.size) ys,⟨?_,Or.inr ⟨g,cap,cur',by rw[List.length_set],hb,h4,by rw[List.length_set];exact hcap,hm,?_,?_⟩⟩,RdC.x04 hc (x4p h2 hk (hy _ _)),nZ⟩,z0j (w:=w) ys _ hg hb⟩
  ·rw[y92 (by rw[hxl];exact hle),List.length_set];exact hxl
  ·have:cur'.toList.length=cur.toList.length:=by rw[h5,y92 (by rw[hcl];omega)]
   rw[hcl] at this;simpa using this
  ·rw[List.length_set,h5];apply List.ext_getElem?;intro i;rw[z9m (by rw[hxl];exact hle)];by_cases hi:i < l.length*c.size
   ·rw[List.getElem?_take_of_lt hi,z9m (by rw[hcl];omega),←hx,List.getElem?_take_of_lt hi]
   ·rw[List.getElem?_take_eq_none (by omega),if_neg (by omega),List.getElem?_eq_none (by omega)]
end Go.Proofs.YtpenlfedkacglaaGreatDoor
namespace Go.Proofs.YtpenlfedkacglaaGreatDoor
open Go.RowKit
attribute [local go_sem] z05 z09 z01 z02
attribute [-go_sem] run_equalIn_agg
attribute [-go_sem] loadCellsFrom
theorem z04 {w:World} {g:Nat} {T:TypeId} {cs:Array Value} (h:Blk w g T cs) (n:Nat) (hn:cs.size=n):Sem.run Tryz.prog (loadCellsFrom ⟨g,0,none⟩ 0 n #[]) w=.ok cs w:=by
 have:=run_loadCellsFrom_list Tryz.prog w ⟨g,0,none⟩ cs.toList n (by simpa using hn) (fun i v hi=>by
  rw[Addr.add_lit,Nat.zero_add,h.cell];simpa using hi)
 simpa using this
theorem z2a {w:World} {b o n:Nat} {ys:List Value} (hn:ys.length=n) (h:∀ (j:Nat) (u:Value),ys[j]? = some u→w.cell? ⟨b,o+j,none⟩=some u):Sem.run Tryz.prog (loadCellsFrom ⟨b,o,none⟩ 0 n #[]) w=.ok ys.toArray w:=
 run_loadCellsFrom_list Tryz.prog w ⟨b,o,none⟩ ys n hn (fun i v hi=>by rw[Addr.add_lit];exact h i v hi)
theorem z2q {α:Type} {c:Cod α} {w:World} {base:Nat} {e T:TypeId} {A:Option Addr} {cap:Nat} {l:List α} (h:z07 c w base e (.slice A l.length cap) l 0) (hT:e≠T):(l.length≤maxLen∧l.length≤cap)∧RdS c w (Sep w T w.heap.size) A l:=by
 obtain ⟨A',cap',he,hn,hx⟩:=h.rds (S:=Sep w T w.heap.size) (fun b cs hb _=>⟨z0k hb,fun cs' fr hx=>by rw[hb] at hx;simp only[qE,Obj.cells.injEq] at hx;exact hT hx.2.1⟩) (fun b hb=>absurd hb.1 (Nat.not_lt_zero _));simp only[Value.slice.injEq] at he;obtain ⟨rfl,-,rfl⟩:=he;exact ⟨hn,hx⟩
theorem j2g {s:List UInt8} (h:nameB s=true):s.length≤12:=by
 unfold nameB at h;simp only[uT,dET] at h;exact h.1.2
theorem x1z (v:LV) (k:Nat) (hkl:k < v.l.sgs.length) (path:List Stp) (A:Option Addr) (cap:Nat) (w:World) (E:EnvR w) (hK:z98 v.l) (hr:LvR w v) (hw:RdS z1i w (Sep w 56 w.heap.size) A path) (h0:0 < path.length) (hl:path.length≤12) (hcap:path.length≤cap) :
  Calls Tryz.prog 81 #[lvA v,.int .i64 (k:Int),.slice A path.length cap] w fun e w'=>∃ rv:z2t,e=.returned (.agg (z0f rv))∧rv.r=z1y v.l k path∧RvR w' (Sep w' 56 w'.heap.size) rv∧Below w.heap.size w w':=by
 have hwl:RdS z1i w (Lt w) A path:=hw.more fun b h=>h.1
 obtain ⟨W2,hW2⟩:∃ W,W=(w.alloc (.cells (z1b v) 28)).alloc (.cells #[.string (ByteArray.mk #[]),.int .i64 0,.int .i64 0,.slice none 0 0,.slice none 0 0,.slice none 0 0,.int .i64 0,.int .i64 0,.slice none 0 0,.slice none 0 0,.slice none 0 0,.slice none 0 0,.slice none 0 0,.slice none 0 0] 56):=⟨_,rfl⟩
 have hb2:Below w.heap.size w W2:=by rw[hW2];exact (bQ.alloc nL _).alloc (by simp) _
 have hx0:Blk W2 w.heap.size 28 (z1b v):=by rw[hW2];exact (Blk.new _ _ _ _ rfl).alloc _
 have hx1:Blk W2 (w.heap.size+1) 56 #[.string (ByteArray.mk #[]),.int .i64 0,.int .i64 0,.slice none 0 0,.slice none 0 0,.slice none 0 0,.int .i64 0,.int .i64 0,.slice none 0 0,.slice none 0 0,.slice none 0 0,.slice none 0 0,.slice none 0 0,.slice none 0 0]:=by rw[hW2];exact Blk.new _ _ _ _ (by simp)
 have hn:=hr.n4.1;unfold maxLen at hn;obtain ⟨b4,off4,hA4,lb4,ho4,q0,q1,q2,q3⟩:=(hr.now hb2).r4.x2m hkl;have hki:(k:Int) < (v.l.sgs.length:Int):=by omega
 have HA4:=hE hA4
 have LS:Hid (∀ (j:Nat) (y:Value),[.string (bs v.l.sgs[k].name),.int .i64 v.l.sgs[k].pos.el,.int .i64 v.l.sgs[k].pos.sd,.int .i64 v.l.sgs[k].ovl][j]? = some y→W2.cell? ⟨b4,off4+k*4+j,none⟩=some y):=hE fun j y hy=>match j,hy with
  | 0,hy=>(sJ hy)▸q0
  | 1,hy=>(sJ hy)▸q1
  | 2,hy=>(sJ hy)▸q2
  | 3,hy=>(sJ hy)▸q3
 have lds:=z2a (b:=b4) (o:=off4+k*4) (n:=4) rfl LS.out;have hr4:=(hr.now hb2).r4;have hnm:∀ j (h:j < v.l.sgs.length),nameB v.l.sgs[j].name=true:=fun j h=>(hK.sg _ (uE h)).2
 have HBR:Hid (z1y v.l k path = { zR with name:=v.l.sgs[k].name++45::(if 0≤y47 v.l (z3d path) then y7q v.l (y47 v.l (z3d path)) else endW),ent:=k,ext:=y47 v.l (z3d path),path:=path,pts:=z0z v.l path,secs:=z0x v.l path,app:=z0d v.l v.l.sgs[k].pos.el,len:=z1j v.l path }):=hE (by unfold z1y;simp[y7q,y46,hkl]);have x4:=(hx0.cell 4).trans (by unfold z1b;rw[HA4.out];rfl:_=some (Value.slice (some ⟨b4,off4,none⟩) v.l.sgs.length v.c4));have lx:=hx0.lt;have lb4':b4 < W2.heap.size:=lb4;have hnk:=hnm k hkl;have hzg:=z8c (v.l.sgs.map Sgn.pos) (z3d path);rw[List.length_map] at hzg;have HZG:=hE (show -1≤y47 v.l (z3d path)∧y47 v.l (z3d path) < v.l.sgs.length from hzg);have HAP:=hE (hK.el _ (hK.sg _ (uE hkl)).1);have hng:=hK.ng;have hns:=hK.ns;have hwk:=y4a hK path 0;have HWK:=hE (show 0≤z1j v.l path∧z1j v.l path≤1000000*path.length by unfold z1j;omega);clear hwk;generalize hsg:v.l.sgs[k]=sg at *;clear hA4 q0 q1 q2 q3 hsg hzg lb4;unfold lvA;go_enter Tryz.func81,Tryz.ntmps81
 go_upto_region 1 with (fail)
 rw[←hW2];clear hW2;obtain ⟨W3,hW3⟩:∃ W,W=W2.alloc (.cells #[.string (bs sg.name),.int .i64 sg.pos.el,.int .i64 sg.pos.sd,.int .i64 sg.ovl] 105):=⟨_,rfl⟩
 have hbe3:Below W2.heap.size W2 W3:=by rw[hW3];exact bQ.alloc nL _
 have hxs:Blk W3 W2.heap.size 105 #[.string (bs sg.name),.int .i64 sg.pos.el,.int .i64 sg.pos.sd,.int .i64 sg.ovl]:=by rw[hW3];exact Blk.new _ _ _ _ rfl
 have hb3:=z00 hb2 hb2.size hbe3;have hx03:=hx0.now hbe3;have hx13:=hx1.now hbe3;have h12:path.length≤1000:=by omega
 have HLF:=hE fun W' (h:Below W3.heap.size W3 W')=>y8h path A cap W' (hwl.now (z00 hb3 hb3.size h)) h0 (by omega)
 have HSG:=hE fun W' (h:Below W3.heap.size W3 W')=>z6j v (z3d path) W' (hr.now (z00 hb3 hb3.size h))
 have HSS:Hid (∀ W,Blk W w.heap.size 28 (z1b v)→Sem.run Tryz.prog (loadCellsFrom ⟨w.heap.size,0,none⟩ 0 6 #[]) W=.ok (z1b v) W):=hE fun W h=>z04 h 6 rfl
 go_wp2_with fail;rw[←hW3];clear hW3 lds x4 lx;refine rgR 6 HSS hx03.drew fun hHeld=>?_
 refine tkM 2 [0,1] ?_;refine rd1 2 rfl fun K hK=>?_
 go_simp;go_at_call 121
 refine (HLF.out _ bQ.drew).mono ?_;rintro e w4 ⟨rfl,hq4⟩;have hq4':Below W3.heap.size W3 w4:=bQ.drew.trans hq4;go_wp2_with fail
 refine hK.out _ _ (HSS.out _ (hx03.now hq4')) (fun hHeld=>?_);clear hK K;try simp only[Act.put,lsa,lsz,lss]
 refine rd1 3 rfl fun K hK=>?_
 go_simp;go_at_call 118
 refine (HSG.out _ hq4').mono ?_;rintro e w5 ⟨rfl,hq5⟩;have hq5':Below W3.heap.size W3 w5:=z00 hq4' hq4'.size hq5;go_wp2_with fail
 refine hK.out _ _ (HSS.out _ (hx03.now hq5')) (fun hHeld=>?_);clear hK K;try simp only[Act.put,lsa,lsz,lss]
 refine tkM 2 [4,5] ?_;refine wdn ?_;have hb5:=z00 hb3 hb3.size hq5';have hx05:=hx03.now hq5';have hx15:=hx13.now hq5';have hxs5:=hxs.now hq5';have hbw5:Below W2.heap.size W2 w5:=z00 hbe3 hbe3.size hq5';obtain ⟨z,hz⟩:∃ z,z5l (v.l.sgs.map Sgn.pos) (z3d path)=z:=⟨_,rfl⟩
 have hzs:y47 v.l (z3d path)=z:=hz;rw[hzs] at HBR HZG;rw[hz];have hz1:=HZG.out;clear hz hzs HLF HSG hq4 hq4' hq5 hx0 hx1 hbe3 hHeld;have HST:=hE fun W' (h:Below w5.heap.size w5 W')=>z8t v path A cap W' (E.now (z00 hb5 hb5.size h)) (hr.now (z00 hb5 hb5.size h)) (hwl.now (z00 hb5 hb5.size h)) h12
 have HSE:=hE fun W' (h:Below w5.heap.size w5 W')=>z8s v path A cap W' (hr.now (z00 hb5 hb5.size h)) (hwl.now (z00 hb5 hb5.size h)) h12
 have HSC:=hE fun W' (h:Below w5.heap.size w5 W')=>z2y v sg.pos.el W' (hr.now (z00 hb5 hb5.size h))
 have HWL:=hE fun W' (h:Below w5.heap.size w5 W')=>y9m v hK path A cap W' (hr.now (z00 hb5 hb5.size h)) (hwl.now (z00 hb5 hb5.size h)) h12
 have hE1:bs sg.name++(ByteArray.mk #[45])=bs (sg.name++[45]):=z01 sg.name [45];have hna:¬9223372036854775807 < sg.name.length+1:=by have:=j2g hnk;omega
 have hE2:(ByteArray.mk #[101,110,100])=bs endW:=rfl;have HS5:Hid (∀ W,Blk W w.heap.size 28 (z1b v)→Blk W W2.heap.size 105 #[.string (bs sg.name),.int .i64 sg.pos.el,.int .i64 sg.pos.sd,.int .i64 sg.ovl]→(fun w'=>Sem.run Tryz.prog (loadCellsFrom ⟨w.heap.size,0,none⟩ 0 6 #[]) w' = .ok (z1b v) w'∧w'.cell? ⟨W2.heap.size,0,none⟩=some (.string (bs sg.name))∧w'.cell? ⟨W2.heap.size,1,none⟩=some (.int .i64 sg.pos.el)) W):=hE fun W h1 h2=>⟨z04 h1 6 rfl,h2.cell 0,h2.cell 1⟩
 by_cases hzp:0≤z
 ·obtain ⟨j,rfl⟩:∃ j:Nat,z=j:=⟨z.toNat,by omega⟩
  have HZP:=hE hzp;have hj:j < v.l.sgs.length:=by omega
  have hji:(j:Int) < (v.l.sgs.length:Int):=by omega
  obtain ⟨b',off',hA',lb',ho',q0,-,-,-⟩:=(hr.now hb5).r4.x2m hj;rw[HA4.out] at hA';simp only[qE,Addr.mk.injEq,and_true] at hA';obtain ⟨rfl,rfl⟩:=hA';have x4:=(hx05.cell 4).trans (by unfold z1b;rw[HA4.out];rfl:_=some (Value.slice (some ⟨b4,off4,none⟩) v.l.sgs.length v.c4));have lx:=hx05.lt;have lb5:b4 < w5.heap.size:=lb';have HNJ:Hid (y7q v.l (j:Int)=v.l.sgs[j].name):=hE (by simp[y7q,hj]);have hnj:=j2g (hnm j hj);generalize v.l.sgs[j].name=nj at *;have hnb:¬9223372036854775807 < sg.name.length+1+nj.length:=by have:=j2g hnk;omega
  go_wp2_with fail;clear x4 lx q0;refine j7u 24 HS5 hx05.drew hxs5.drew fun hHeld=>?_
  refine tkM 18 [0,1,2,3,4,5,6,7,8,9,11,12,14,15,16,17,19,20] ?_;refine rd1 10 rfl fun K hK=>?_
  go_simp;go_at_call 48
  refine (HST.out _ bQ.drew).mono ?_;rintro e w6 ⟨B2,d2,rfl,ho6,hq6⟩;have hq6':Below w5.heap.size w5 w6:=bQ.drew.trans hq6;go_wp2_with fail
  refine hK.out _ _ (HS5.out _ (hx05.now hq6') (hxs5.now hq6')) (fun hHeld=>?_);clear hK K;try simp only[Act.put,lsa,lsz,lss]
  refine rd1 13 rfl fun K hK=>?_
  go_simp;go_at_call 49
  refine (HSE.out _ hq6').mono ?_;rintro e w7 ⟨B3,d3,rfl,ho7,hq7⟩;have hq7':Below w5.heap.size w5 w7:=z00 hq6' hq6'.size hq7;go_wp2_with fail
  refine hK.out _ _ (HS5.out _ (hx05.now hq7') (hxs5.now hq7')) (fun hHeld=>?_);clear hK K;try simp only[Act.put,lsa,lsz,lss]
  refine rd1 18 rfl fun K hK=>?_
  go_simp;go_at_call 18
  refine (HSC.out _ hq7').mono ?_;rintro e w8 ⟨rfl,hq8⟩;have hq8':Below w5.heap.size w5 w8:=z00 hq7' hq7'.size hq8;go_wp2_with fail
  refine hK.out _ _ (HS5.out _ (hx05.now hq8') (hxs5.now hq8')) (fun hHeld=>?_);clear hK K;try simp only[Act.put,lsa,lsz,lss]
  refine rd1 21 rfl fun K hK=>?_
  go_simp;go_at_call 93
  refine (HWL.out _ hq8').mono ?_;rintro e w9 ⟨rfl,hq9⟩;have hq9':Below w5.heap.size w5 w9:=z00 hq8' hq8'.size hq9;go_wp2_with fail
  refine hK.out _ _ (HS5.out _ (hx05.now hq9') (hxs5.now hq9')) (fun hHeld=>?_);clear hK K;try simp only[Act.put,lsa,lsz,lss]
  refine tkM 1 [22] ?_;have hz9:=hx15.now hq9';have r0:=hz9.cell 0;have r1:=hz9.cell 1;have r2:=hz9.cell 2;have r3:=hz9.cell 3;have r4:=hz9.cell 4;have r5:=hz9.cell 5;have r6:=hz9.cell 6;have r7:=hz9.cell 7;have r8:=hz9.cell 8;have r9:=hz9.cell 9;have r10:=hz9.cell 10;have r11:=hz9.cell 11;have r12:=hz9.cell 12;have r13:=hz9.cell 13;have rf:=hz9.free;have rl:=hz9.lt;simp only[gqA,gqZ,gqS] at r0 r1 r2 r3 r4 r5 r6 r7 r8 r9 r10 r11 r12 r13;have hfr:Frm (w.heap.size+1) 56 w9 ((((((((((((((w9.setCell ⟨w.heap.size+1,0,none⟩ (.string (bs (sg.name++45::nj)))).setCell ⟨w.heap.size+1,1,none⟩ (.int .i64 (k:Int))).setCell ⟨w.heap.size+1,2,none⟩ (.int .i64 (j:Int))).setCell ⟨w.heap.size+1,3,none⟩ (.slice A path.length cap)).setCell ⟨w.heap.size+1,4,none⟩ (.slice B2 (z0z v.l path).length d2)).setCell ⟨w.heap.size+1,5,none⟩ (.slice B3 (z0x v.l path).length d3)).setCell ⟨w.heap.size+1,6,none⟩ (.int .i64 (z0d v.l sg.pos.el))).setCell ⟨w.heap.size+1,7,none⟩ (.int .i64 (z1j v.l path))).setCell ⟨w.heap.size+1,8,none⟩ (.slice none 0 0)).setCell ⟨w.heap.size+1,9,none⟩ (.slice none 0 0)).setCell ⟨w.heap.size+1,10,none⟩ (.slice none 0 0)).setCell ⟨w.heap.size+1,11,none⟩ (.slice none 0 0)).setCell ⟨w.heap.size+1,12,none⟩ (.slice none 0 0)).setCell ⟨w.heap.size+1,13,none⟩ (.slice none 0 0)):=z0j (w:=w9) [.string (bs (sg.name++45::nj)),.int .i64 (k:Int),.int .i64 (j:Int),.slice A path.length cap,.slice B2 (z0z v.l path).length d2,.slice B3 (z0x v.l path).length d3,.int .i64 (z0d v.l sg.pos.el),.int .i64 (z1j v.l path),.slice none 0 0,.slice none 0 0,.slice none 0 0,.slice none 0 0,.slice none 0 0,.slice none 0 0] 0 hz9 nL;have hp:Blk ((((((((((((((w9.setCell ⟨w.heap.size+1,0,none⟩ (.string (bs (sg.name++45::nj)))).setCell ⟨w.heap.size+1,1,none⟩ (.int .i64 (k:Int))).setCell ⟨w.heap.size+1,2,none⟩ (.int .i64 (j:Int))).setCell ⟨w.heap.size+1,3,none⟩ (.slice A path.length cap)).setCell ⟨w.heap.size+1,4,none⟩ (.slice B2 (z0z v.l path).length d2)).setCell ⟨w.heap.size+1,5,none⟩ (.slice B3 (z0x v.l path).length d3)).setCell ⟨w.heap.size+1,6,none⟩ (.int .i64 (z0d v.l sg.pos.el))).setCell ⟨w.heap.size+1,7,none⟩ (.int .i64 (z1j v.l path))).setCell ⟨w.heap.size+1,8,none⟩ (.slice none 0 0)).setCell ⟨w.heap.size+1,9,none⟩ (.slice none 0 0)).setCell ⟨w.heap.size+1,10,none⟩ (.slice none 0 0)).setCell ⟨w.heap.size+1,11,none⟩ (.slice none 0 0)).setCell ⟨w.heap.size+1,12,none⟩ (.slice none 0 0)).setCell ⟨w.heap.size+1,13,none⟩ (.slice none 0 0)) (w.heap.size+1) 56 #[.string (bs (sg.name++45::nj)),.int .i64 (k:Int),.int .i64 (j:Int),.slice A path.length cap,.slice B2 (z0z v.l path).length d2,.slice B3 (z0x v.l path).length d3,.int .i64 (z0d v.l sg.pos.el),.int .i64 (z1j v.l path),.slice none 0 0,.slice none 0 0,.slice none 0 0,.slice none 0 0,.slice none 0 0,.slice none 0 0]:=by
   obtain ⟨cur',h1,h2⟩:=z3y [.string (bs (sg.name++45::nj)),.int .i64 (k:Int),.int .i64 (j:Int),.slice A path.length cap,.slice B2 (z0z v.l path).length d2,.slice B3 (z0x v.l path).length d3,.int .i64 (z0d v.l sg.pos.el),.int .i64 (z1j v.l path),.slice none 0 0,.slice none 0 0,.slice none 0 0,.slice none 0 0,.slice none 0 0,.slice none 0 0] 0 hz9 (by simp);have h3:cur' = #[.string (bs (sg.name++45::nj)),.int .i64 (k:Int),.int .i64 (j:Int),.slice A path.length cap,.slice B2 (z0z v.l path).length d2,.slice B3 (z0x v.l path).length d3,.int .i64 (z0d v.l sg.pos.el),.int .i64 (z1j v.l path),.slice none 0 0,.slice none 0 0,.slice none 0 0,.slice none 0 0,.slice none 0 0,.slice none 0 0]:=Array.toList_inj.1 h2;rw[h3] at h1;exact h1
  have hb9:=z00 hb5 hb5.size hq9';have hbX:Below w.heap.size w ((((((((((((((w9.setCell ⟨w.heap.size+1,0,none⟩ (.string (bs (sg.name++45::nj)))).setCell ⟨w.heap.size+1,1,none⟩ (.int .i64 (k:Int))).setCell ⟨w.heap.size+1,2,none⟩ (.int .i64 (j:Int))).setCell ⟨w.heap.size+1,3,none⟩ (.slice A path.length cap)).setCell ⟨w.heap.size+1,4,none⟩ (.slice B2 (z0z v.l path).length d2)).setCell ⟨w.heap.size+1,5,none⟩ (.slice B3 (z0x v.l path).length d3)).setCell ⟨w.heap.size+1,6,none⟩ (.int .i64 (z0d v.l sg.pos.el))).setCell ⟨w.heap.size+1,7,none⟩ (.int .i64 (z1j v.l path))).setCell ⟨w.heap.size+1,8,none⟩ (.slice none 0 0)).setCell ⟨w.heap.size+1,9,none⟩ (.slice none 0 0)).setCell ⟨w.heap.size+1,10,none⟩ (.slice none 0 0)).setCell ⟨w.heap.size+1,11,none⟩ (.slice none 0 0)).setCell ⟨w.heap.size+1,12,none⟩ (.slice none 0 0)).setCell ⟨w.heap.size+1,13,none⟩ (.slice none 0 0)):=hfr.keeps (by omega) hb9.size hb9;have ho6X:=(((ho6.now (z00 (z00 hq7 hq7.size hq8) (z00 hq7 hq7.size hq8).size hq9))).frm hfr (by decide) nZ)
  have ho7X:=((ho7.now (z00 hq8 hq8.size hq9)).frm hfr (by decide) nZ)
  refine rd1 23 rfl fun K hK=>?_
  go_simp;refine hK.out _ _ (HS5.out _ (hfr.blk (hx05.now hq9') (by decide)) (hfr.blk (hxs5.now hq9') (by decide))) (fun hHeld=>?_);clear hK K;try simp only[Act.put,lsa,lsz,lss]
  refine wdn ?_;clear hHeld hfr;obtain ⟨WX,hWX⟩:∃ W,W=((((((((((((((w9.setCell ⟨w.heap.size+1,0,none⟩ (.string (bs (sg.name++45::nj)))).setCell ⟨w.heap.size+1,1,none⟩ (.int .i64 (k:Int))).setCell ⟨w.heap.size+1,2,none⟩ (.int .i64 (j:Int))).setCell ⟨w.heap.size+1,3,none⟩ (.slice A path.length cap)).setCell ⟨w.heap.size+1,4,none⟩ (.slice B2 (z0z v.l path).length d2)).setCell ⟨w.heap.size+1,5,none⟩ (.slice B3 (z0x v.l path).length d3)).setCell ⟨w.heap.size+1,6,none⟩ (.int .i64 (z0d v.l sg.pos.el))).setCell ⟨w.heap.size+1,7,none⟩ (.int .i64 (z1j v.l path))).setCell ⟨w.heap.size+1,8,none⟩ (.slice none 0 0)).setCell ⟨w.heap.size+1,9,none⟩ (.slice none 0 0)).setCell ⟨w.heap.size+1,10,none⟩ (.slice none 0 0)).setCell ⟨w.heap.size+1,11,none⟩ (.slice none 0 0)).setCell ⟨w.heap.size+1,12,none⟩ (.slice none 0 0)).setCell ⟨w.heap.size+1,13,none⟩ (.slice none 0 0)):=⟨_,rfl⟩
  rw[←hWX] at hp hbX ho6X ho7X ⊢;clear hWX hz9 rf rl r0 r1 r2 r3 r4 r5 r6 r7 r8 r9 r10 r11 r12 r13;have ldp:=z04 hp 14 rfl;have HX:=hE (aIq hp (aIq hbX (aIq ho6X ho7X)));clear hp hbX ho6X ho7X hq6 hq6' hq7 hq7' hq8 hq8' hq9 ho6 ho7;go_wp2_with fail
  obtain ⟨hp,hbX,ho6X,ho7X⟩:=HX.out;have pl:=hp.lt;refine bodyPost_ret (v:=.agg #[.string (bs (sg.name++45::nj)),.int .i64 (k:Int),.int .i64 (j:Int),.slice A path.length cap,.slice B2 (z0z v.l path).length d2,.slice B3 (z0x v.l path).length d3,.int .i64 (z0d v.l sg.pos.el),.int .i64 (z1j v.l path),.slice none 0 0,.slice none 0 0,.slice none 0 0,.slice none 0 0,.slice none 0 0,.slice none 0 0]) (by simp[results,Tryz.results81,go_sem,ldp,pl]) rfl ?_;have hap:=HAP.out;have hwk:=HWK.out;have hk12:=j2g hnk;obtain ⟨n2,s2⟩:=z2q (T:=56) ho6X (by decide);obtain ⟨n3,s3⟩:=z2q (T:=56) ho7X (by decide);have s1:=(hw.keep fun p hp=>hbX.cell hp.1).more fun b hb=>(⟨nT hb.1 hbX.size,fun cs fr he=>hb.2 cs fr (by rw[←hbX.block b hb.1];exact he)⟩:Sep _ 56 _ b)
  have hi0:z0p 0:=by constructor <;> simp
  have hz0:∀ c:Nat,(0:Nat)≤maxLen∧0≤c:=fun c=>⟨nZ,nZ⟩
  have hnm2:(sg.name++45::nj).length≤maxLen:=by rw[qL,lCn];unfold maxLen;omega
  have hpl2:path.length≤maxLen∧path.length≤cap:=⟨by unfold maxLen;omega,hcap⟩
  have HB2:z1y v.l k path = { zR with name:=sg.name++45::nj,ent:=(k:Int),ext:=(j:Int),path:=path,pts:=z0z v.l path,secs:=z0x v.l path,app:=z0d v.l sg.pos.el,len:=z1j v.l path }:=by rw[HBR.out,if_pos HZP.out,HNJ.out]
  have hss:=hap.2.2.2;have e1:z0p (k:Int):=⟨by omega,by omega⟩
  have e2:z0p (j:Int):=⟨by omega,by omega⟩
  have e3:z0p (z0d v.l sg.pos.el):=⟨by omega,by omega⟩
  have e4:z0p (z1j v.l path):=⟨by omega,by omega⟩
  exact ⟨{ r:={ zR with name:=sg.name++45::nj,ent:=(k:Int),ext:=(j:Int),path:=path,pts:=z0z v.l path,secs:=z0x v.l path,app:=z0d v.l sg.pos.el,len:=z1j v.l path },A1:=A,A2:=B2,A3:=B3,A4:=none,A5:=none,A6:=none,A7:=none,A8:=none,A9:=none,c1:=cap,c2:=d2,c3:=d3,c4:=0,c5:=0,c6:=0,c7:=0,c8:=0,c9:=0 },rfl,HB2.symm,⟨⟨hnm2,e1,e2,e3,e4,hpl2,n2,n3,hz0 _,hz0 _,hz0 _,hz0 _,hz0 _,hz0 _⟩,s1,s2,s3,RdS.nil _ _ _ _,RdS.nil _ _ _ _,RdS.nil _ _ _ _,RdS.nil _ _ _ _,RdS.nil _ _ _ _,RdS.nil _ _ _ _⟩,hbX⟩
 ·have HZP:=hE hzp;have hel:endW.length=3:=rfl;have hzn:¬0≤z:=hzp;have hzn2:z < 0:=by omega
  have hnb:¬9223372036854775807 < sg.name.length+1+3:=by have:=j2g hnk;omega
  go_wp2_with fail;refine j7u 24 HS5 hx05.drew hxs5.drew fun hHeld=>?_
  refine tkM 18 [0,1,2,3,4,5,6,7,8,9,11,12,14,15,16,17,19,20] ?_;refine rd1 10 rfl fun K hK=>?_
  go_simp;go_at_call 48
  refine (HST.out _ bQ.drew).mono ?_;rintro e w6 ⟨B2,d2,rfl,ho6,hq6⟩;have hq6':Below w5.heap.size w5 w6:=bQ.drew.trans hq6;go_wp2_with fail
  refine hK.out _ _ (HS5.out _ (hx05.now hq6') (hxs5.now hq6')) (fun hHeld=>?_);clear hK K;try simp only[Act.put,lsa,lsz,lss]
  refine rd1 13 rfl fun K hK=>?_
  go_simp;go_at_call 49
  refine (HSE.out _ hq6').mono ?_;rintro e w7 ⟨B3,d3,rfl,ho7,hq7⟩;have hq7':Below w5.heap.size w5 w7:=z00 hq6' hq6'.size hq7;go_wp2_with fail
  refine hK.out _ _ (HS5.out _ (hx05.now hq7') (hxs5.now hq7')) (fun hHeld=>?_);clear hK K;try simp only[Act.put,lsa,lsz,lss]
  refine rd1 18 rfl fun K hK=>?_
  go_simp;go_at_call 18
  refine (HSC.out _ hq7').mono ?_;rintro e w8 ⟨rfl,hq8⟩;have hq8':Below w5.heap.size w5 w8:=z00 hq7' hq7'.size hq8;go_wp2_with fail
  refine hK.out _ _ (HS5.out _ (hx05.now hq8') (hxs5.now hq8')) (fun hHeld=>?_);clear hK K;try simp only[Act.put,lsa,lsz,lss]
  refine rd1 21 rfl fun K hK=>?_
  go_simp;go_at_call 93
  refine (HWL.out _ hq8').mono ?_;rintro e w9 ⟨rfl,hq9⟩;have hq9':Below w5.heap.size w5 w9:=z00 hq8' hq8'.size hq9;go_wp2_with fail
  refine hK.out _ _ (HS5.out _ (hx05.now hq9') (hxs5.now hq9')) (fun hHeld=>?_);clear hK K;try simp only[Act.put,lsa,lsz,lss]
  refine tkM 1 [22] ?_;have hz9:=hx15.now hq9';have r0:=hz9.cell 0;have r1:=hz9.cell 1;have r2:=hz9.cell 2;have r3:=hz9.cell 3;have r4:=hz9.cell 4;have r5:=hz9.cell 5;have r6:=hz9.cell 6;have r7:=hz9.cell 7;have r8:=hz9.cell 8;have r9:=hz9.cell 9;have r10:=hz9.cell 10;have r11:=hz9.cell 11;have r12:=hz9.cell 12;have r13:=hz9.cell 13;have rf:=hz9.free;have rl:=hz9.lt;simp only[gqA,gqZ,gqS] at r0 r1 r2 r3 r4 r5 r6 r7 r8 r9 r10 r11 r12 r13;have hfr:Frm (w.heap.size+1) 56 w9 ((((((((((((((w9.setCell ⟨w.heap.size+1,0,none⟩ (.string (bs (sg.name++45::endW)))).setCell ⟨w.heap.size+1,1,none⟩ (.int .i64 (k:Int))).setCell ⟨w.heap.size+1,2,none⟩ (.int .i64 z)).setCell ⟨w.heap.size+1,3,none⟩ (.slice A path.length cap)).setCell ⟨w.heap.size+1,4,none⟩ (.slice B2 (z0z v.l path).length d2)).setCell ⟨w.heap.size+1,5,none⟩ (.slice B3 (z0x v.l path).length d3)).setCell ⟨w.heap.size+1,6,none⟩ (.int .i64 (z0d v.l sg.pos.el))).setCell ⟨w.heap.size+1,7,none⟩ (.int .i64 (z1j v.l path))).setCell ⟨w.heap.size+1,8,none⟩ (.slice none 0 0)).setCell ⟨w.heap.size+1,9,none⟩ (.slice none 0 0)).setCell ⟨w.heap.size+1,10,none⟩ (.slice none 0 0)).setCell ⟨w.heap.size+1,11,none⟩ (.slice none 0 0)).setCell ⟨w.heap.size+1,12,none⟩ (.slice none 0 0)).setCell ⟨w.heap.size+1,13,none⟩ (.slice none 0 0)):=z0j (w:=w9) [.string (bs (sg.name++45::endW)),.int .i64 (k:Int),.int .i64 z,.slice A path.length cap,.slice B2 (z0z v.l path).length d2,.slice B3 (z0x v.l path).length d3,.int .i64 (z0d v.l sg.pos.el),.int .i64 (z1j v.l path),.slice none 0 0,.slice none 0 0,.slice none 0 0,.slice none 0 0,.slice none 0 0,.slice none 0 0] 0 hz9 nL;have hp:Blk ((((((((((((((w9.setCell ⟨w.heap.size+1,0,none⟩ (.string (bs (sg.name++45::endW)))).setCell ⟨w.heap.size+1,1,none⟩ (.int .i64 (k:Int))).setCell ⟨w.heap.size+1,2,none⟩ (.int .i64 z)).setCell ⟨w.heap.size+1,3,none⟩ (.slice A path.length cap)).setCell ⟨w.heap.size+1,4,none⟩ (.slice B2 (z0z v.l path).length d2)).setCell ⟨w.heap.size+1,5,none⟩ (.slice B3 (z0x v.l path).length d3)).setCell ⟨w.heap.size+1,6,none⟩ (.int .i64 (z0d v.l sg.pos.el))).setCell ⟨w.heap.size+1,7,none⟩ (.int .i64 (z1j v.l path))).setCell ⟨w.heap.size+1,8,none⟩ (.slice none 0 0)).setCell ⟨w.heap.size+1,9,none⟩ (.slice none 0 0)).setCell ⟨w.heap.size+1,10,none⟩ (.slice none 0 0)).setCell ⟨w.heap.size+1,11,none⟩ (.slice none 0 0)).setCell ⟨w.heap.size+1,12,none⟩ (.slice none 0 0)).setCell ⟨w.heap.size+1,13,none⟩ (.slice none 0 0)) (w.heap.size+1) 56 #[.string (bs (sg.name++45::endW)),.int .i64 (k:Int),.int .i64 z,.slice A path.length cap,.slice B2 (z0z v.l path).length d2,.slice B3 (z0x v.l path).length d3,.int .i64 (z0d v.l sg.pos.el),.int .i64 (z1j v.l path),.slice none 0 0,.slice none 0 0,.slice none 0 0,.slice none 0 0,.slice none 0 0,.slice none 0 0]:=by
   obtain ⟨cur',h1,h2⟩:=z3y [.string (bs (sg.name++45::endW)),.int .i64 (k:Int),.int .i64 z,.slice A path.length cap,.slice B2 (z0z v.l path).length d2,.slice B3 (z0x v.l path).length d3,.int .i64 (z0d v.l sg.pos.el),.int .i64 (z1j v.l path),.slice none 0 0,.slice none 0 0,.slice none 0 0,.slice none 0 0,.slice none 0 0,.slice none 0 0] 0 hz9 (by simp);have h3:cur' = #[.string (bs (sg.name++45::endW)),.int .i64 (k:Int),.int .i64 z,.slice A path.length cap,.slice B2 (z0z v.l path).length d2,.slice B3 (z0x v.l path).length d3,.int .i64 (z0d v.l sg.pos.el),.int .i64 (z1j v.l path),.slice none 0 0,.slice none 0 0,.slice none 0 0,.slice none 0 0,.slice none 0 0,.slice none 0 0]:=Array.toList_inj.1 h2;rw[h3] at h1;exact h1
  have hb9:=z00 hb5 hb5.size hq9';have hbX:Below w.heap.size w ((((((((((((((w9.setCell ⟨w.heap.size+1,0,none⟩ (.string (bs (sg.name++45::endW)))).setCell ⟨w.heap.size+1,1,none⟩ (.int .i64 (k:Int))).setCell ⟨w.heap.size+1,2,none⟩ (.int .i64 z)).setCell ⟨w.heap.size+1,3,none⟩ (.slice A path.length cap)).setCell ⟨w.heap.size+1,4,none⟩ (.slice B2 (z0z v.l path).length d2)).setCell ⟨w.heap.size+1,5,none⟩ (.slice B3 (z0x v.l path).length d3)).setCell ⟨w.heap.size+1,6,none⟩ (.int .i64 (z0d v.l sg.pos.el))).setCell ⟨w.heap.size+1,7,none⟩ (.int .i64 (z1j v.l path))).setCell ⟨w.heap.size+1,8,none⟩ (.slice none 0 0)).setCell ⟨w.heap.size+1,9,none⟩ (.slice none 0 0)).setCell ⟨w.heap.size+1,10,none⟩ (.slice none 0 0)).setCell ⟨w.heap.size+1,11,none⟩ (.slice none 0 0)).setCell ⟨w.heap.size+1,12,none⟩ (.slice none 0 0)).setCell ⟨w.heap.size+1,13,none⟩ (.slice none 0 0)):=hfr.keeps (by omega) hb9.size hb9;have ho6X:=(((ho6.now (z00 (z00 hq7 hq7.size hq8) (z00 hq7 hq7.size hq8).size hq9))).frm hfr (by decide) nZ)
  have ho7X:=((ho7.now (z00 hq8 hq8.size hq9)).frm hfr (by decide) nZ)
  refine rd1 23 rfl fun K hK=>?_
  go_simp;refine hK.out _ _ (HS5.out _ (hfr.blk (hx05.now hq9') (by decide)) (hfr.blk (hxs5.now hq9') (by decide))) (fun hHeld=>?_);clear hK K;try simp only[Act.put,lsa,lsz,lss]
  refine wdn ?_;clear hHeld hfr;obtain ⟨WX,hWX⟩:∃ W,W=((((((((((((((w9.setCell ⟨w.heap.size+1,0,none⟩ (.string (bs (sg.name++45::endW)))).setCell ⟨w.heap.size+1,1,none⟩ (.int .i64 (k:Int))).setCell ⟨w.heap.size+1,2,none⟩ (.int .i64 z)).setCell ⟨w.heap.size+1,3,none⟩ (.slice A path.length cap)).setCell ⟨w.heap.size+1,4,none⟩ (.slice B2 (z0z v.l path).length d2)).setCell ⟨w.heap.size+1,5,none⟩ (.slice B3 (z0x v.l path).length d3)).setCell ⟨w.heap.size+1,6,none⟩ (.int .i64 (z0d v.l sg.pos.el))).setCell ⟨w.heap.size+1,7,none⟩ (.int .i64 (z1j v.l path))).setCell ⟨w.heap.size+1,8,none⟩ (.slice none 0 0)).setCell ⟨w.heap.size+1,9,none⟩ (.slice none 0 0)).setCell ⟨w.heap.size+1,10,none⟩ (.slice none 0 0)).setCell ⟨w.heap.size+1,11,none⟩ (.slice none 0 0)).setCell ⟨w.heap.size+1,12,none⟩ (.slice none 0 0)).setCell ⟨w.heap.size+1,13,none⟩ (.slice none 0 0)):=⟨_,rfl⟩
  rw[←hWX] at hp hbX ho6X ho7X ⊢;clear hWX hz9 rf rl r0 r1 r2 r3 r4 r5 r6 r7 r8 r9 r10 r11 r12 r13;have ldp:=z04 hp 14 rfl;have HX:=hE (aIq hp (aIq hbX (aIq ho6X ho7X)));clear hp hbX ho6X ho7X hq6 hq6' hq7 hq7' hq8 hq8' hq9 ho6 ho7;go_wp2_with fail
  obtain ⟨hp,hbX,ho6X,ho7X⟩:=HX.out;have pl:=hp.lt;refine bodyPost_ret (v:=.agg #[.string (bs (sg.name++45::endW)),.int .i64 (k:Int),.int .i64 z,.slice A path.length cap,.slice B2 (z0z v.l path).length d2,.slice B3 (z0x v.l path).length d3,.int .i64 (z0d v.l sg.pos.el),.int .i64 (z1j v.l path),.slice none 0 0,.slice none 0 0,.slice none 0 0,.slice none 0 0,.slice none 0 0,.slice none 0 0]) (by simp[results,Tryz.results81,go_sem,ldp,pl]) rfl ?_;have hap:=HAP.out;have hwk:=HWK.out;have hk12:=j2g hnk;obtain ⟨n2,s2⟩:=z2q (T:=56) ho6X (by decide);obtain ⟨n3,s3⟩:=z2q (T:=56) ho7X (by decide);have s1:=(hw.keep fun p hp=>hbX.cell hp.1).more fun b hb=>(⟨nT hb.1 hbX.size,fun cs fr he=>hb.2 cs fr (by rw[←hbX.block b hb.1];exact he)⟩:Sep _ 56 _ b)
  have hi0:z0p 0:=by constructor <;> simp
  have hz0:∀ c:Nat,(0:Nat)≤maxLen∧0≤c:=fun c=>⟨nZ,nZ⟩
  have hnm2:(sg.name++45::endW).length≤maxLen:=by rw[qL,lCn];unfold maxLen;omega
  have hpl2:path.length≤maxLen∧path.length≤cap:=⟨by unfold maxLen;omega,hcap⟩
  have HB2:z1y v.l k path = { zR with name:=sg.name++45::endW,ent:=(k:Int),ext:=z,path:=path,pts:=z0z v.l path,secs:=z0x v.l path,app:=z0d v.l sg.pos.el,len:=z1j v.l path }:=by rw[HBR.out,if_neg (by have:=HZP.out;omega)]
  have hss:=hap.2.2.2;have e1:z0p (k:Int):=⟨by omega,by omega⟩
  have e2:z0p z:=⟨by omega,by omega⟩
  have e3:z0p (z0d v.l sg.pos.el):=⟨by omega,by omega⟩
  have e4:z0p (z1j v.l path):=⟨by omega,by omega⟩
  exact ⟨{ r:={ zR with name:=sg.name++45::endW,ent:=(k:Int),ext:=z,path:=path,pts:=z0z v.l path,secs:=z0x v.l path,app:=z0d v.l sg.pos.el,len:=z1j v.l path },A1:=A,A2:=B2,A3:=B3,A4:=none,A5:=none,A6:=none,A7:=none,A8:=none,A9:=none,c1:=cap,c2:=d2,c3:=d3,c4:=0,c5:=0,c6:=0,c7:=0,c8:=0,c9:=0 },rfl,HB2.symm,⟨⟨hnm2,e1,e2,e3,e4,hpl2,n2,n3,hz0 _,hz0 _,hz0 _,hz0 _,hz0 _,hz0 _⟩,s1,s2,s3,RdS.nil _ _ _ _,RdS.nil _ _ _ _,RdS.nil _ _ _ _,RdS.nil _ _ _ _,RdS.nil _ _ _ _,RdS.nil _ _ _ _⟩,hbX⟩
end Go.Proofs.YtpenlfedkacglaaGreatDoor
namespace Go.Proofs.YtpenlfedkacglaaGreatDoor
open Go.RowKit
open Go.Maps (Keyed IsMap)
attribute [local go_sem] z05 z09 z01 z02
attribute [-go_sem] run_equalIn_agg
theorem j6v {t:Tab} {b:Bool} (v:z1q) (r:z2t) (h:z7p v.t r.r=b) (w:World) (hr:TvR w v) (hrr:RvR w (Lt w) r) (hl:y57 v.t=true) (h3:r.r.secs.length≤40000) (h6:r.r.osecs.length≤40000):Calls Tryz.prog 54 #[tvA v,.agg (z0f r)] w fun e w'=>e=.returned (.bool b)∧Below w.heap.size w w':=by
 unfold y57 at hl;simp only[uT,z1d] at hl;exact h▸y1i v r w hr hrr hl.2.2.1.1 hl.2.2.1.2 hl.2.2.2.1 hl.2.2.2.2 h3 h6
theorem j4m {b:Bool} (v:z1q) (l:List Stg) (h:y0q v.t l=b) (A:Option Addr) (cap:Nat) (w:World) (hr:TvR w v) (hl:RdS z3h w (Lt w) A l) (hn:l.length≤maxLen):Calls Tryz.prog 55 #[tvA v,.slice A l.length cap] w fun e w'=>e=.returned (.bool b)∧Below w.heap.size w w':=h▸z8j v l A cap w hr hl hn
theorem j4g {c:Bool} (a b:List Stg) (h:y0x a b=c) (A B:Option Addr) (ca cb:Nat) (w:World) (ha:RdS z3h w (Lt w) A a) (hb:RdS z3h w (Lt w) B b) (la:a.length≤maxLen) (lb:b.length≤maxLen):Calls Tryz.prog 56 #[.slice A a.length ca,.slice B b.length cb] w fun e w'=>e=.returned (.bool c)∧Below w.heap.size w w':=h▸y4f a b A B ca cb w ha hb la lb
theorem j9l {b:Bool} (v:z1q) (h:y40 v.t=b) (w:World) (hr:TvR w v) (hs:v.t.nsec≤1000):Calls Tryz.prog 53 #[tvA v] w fun e w'=>e=.returned (.bool b)∧Below w.heap.size w w':=h▸y0a v w hr hs
theorem j3i {t:Tab} {r:Rou} (h:y0q t r.pts=false):setB t r=false:=by unfold setB;rw[h];rfl
theorem j3j {t:Tab} {r:Rou} (h:y0q t r.opts=false):setB t r=false:=by unfold setB;rw[h];simp
theorem j3k {t:Tab} {r:Rou} (h:y0q t r.flk=false):setB t r=false:=by unfold setB;rw[h];simp
theorem j3l {t:Tab} {r:Rou} (h1:y0q t r.pts=true) (h2:y0q t r.opts=true) (h3:y0q t r.flk=true):setB t r=true:=by unfold setB;rw[h1,h2,h3];rfl
theorem j4q {r:Rou} (h:y0x r.pts r.opts=false):agB r=false:=by unfold agB;rw[h];rfl
theorem j4r {r:Rou} (h:y0x r.pts r.flk=false):agB r=false:=by unfold agB;rw[h];simp
theorem j4s {r:Rou} (h:y0x r.opts r.flk=false):agB r=false:=by unfold agB;rw[h];simp
theorem j4t {r:Rou} (h1:y0x r.pts r.opts=true) (h2:y0x r.pts r.flk=true) (h3:y0x r.opts r.flk=true):agB r=true:=by unfold agB;rw[h1,h2,h3];rfl
theorem y8j {t:Tab} (h:48 < t.rts.length∨32 < t.pts.length∨inB t.nsec 0 24=false∨inB t.nsig 0 20=false):y57 t=false:=by
 unfold y57;rcases h with h | h | h | h
 ·rw[dFf (by omega)];rfl
 ·rw[dFf (show ¬t.pts.length≤32 by omega)];simp
 ·rw[h];simp
 ·rw[h];simp
theorem j1z {t:Tab} (h:¬48 < t.rts.length) (h2:¬32 < t.pts.length) (h3:inB t.nsec 0 24=true) (h4:inB t.nsig 0 20=true):y57 t=true:=by
 unfold y57;rw[h3,h4,dTt (by omega),dTt (by omega)];rfl
theorem j6g {l:List Rou} {k:Nat} (s:List UInt8):(((l.take k).map Rou.name).map Lit.string).any (fun x=>x.sameKey (.string s))=decide (s∈(l.map Rou.name).take k):=by rw[x1u,List.map_take]
theorem j5k {l:List Rou} {k:Nat} (h:k < l.length) (hx:l[k].name∈(l.map Rou.name).take k):¬(l.map Rou.name).Nodup:=z5v (l:=l.map Rou.name) (k:=k) (by simpa using h) (by simpa using hx)
theorem j6i {l:List Rou} {k:Nat} (h:k < l.length) (hn:((l.map Rou.name).take k).Nodup) (hx:l[k].name∉(l.map Rou.name).take k):((l.map Rou.name).take (k+1)).Nodup:=z3u (l:=l.map Rou.name) (by simpa using h) hn (by simpa using hx)
theorem Bx.grow {w0 w w':World} {v:z1q} (h:Bx w0 w v) (hr:TvR w0 v) {g:Nat} (hg:w.grownBy w' (some g)) (h1:w0.heap.size≤g) (h2:g≠w0.heap.size):Bx w0 w' v:=
 have hb:=h.bel.grown hg h.bel.size (fun k hk=>by simp only[qE] at hk;omega)
 ⟨hb,(hg.block _ h.lt (by intro he;simp only[qE] at he;omega)).trans h.blk,hr.now hb⟩
def y4d (t:Tab):Prop:=∀ r∈t.rts,r.secs.length≤40000∧r.osecs.length≤40000
theorem z8k (v:z1q) (w:World) (hr:TvR w v) (hsm:y4d v.t):Calls Tryz.prog 21 #[tvA v] w fun e w'=>e=.returned (.int .i64 (z4p v.t))∧Below w.heap.size w w':=by
 have hb0:=Bx.new hr;have x0:=hb0.x0;have x1:=hb0.x1;have x2:=hb0.x2;have x3:=hb0.x3;have x4:=hb0.x4;have hB:=hb0.bel;have HSM:=hE hsm;clear hsm;unfold tvA;by_cases d1:48 < v.t.rts.length
 ·have HX:=hE (z9a (y8j (Or.inl d1)));have d1i:(48:Int) < (v.t.rts.length:Int):=by omega
  clear d1;go_enter Tryz.func21,Tryz.ntmps21
  go_wp2_with fail;go_ret
  exact ⟨z0i HX.out.symm,hB⟩
 by_cases d2:32 < v.t.pts.length
 ·have HX:=hE (z9a (y8j (Or.inr (Or.inl d2))));have d1i:¬(48:Int) < (v.t.rts.length:Int):=by omega
  have d2i:(32:Int) < (v.t.pts.length:Int):=by omega
  clear d1 d2;go_enter Tryz.func21,Tryz.ntmps21
  go_wp2_with fail;go_ret
  exact ⟨z0i HX.out.symm,hB⟩
 have d1i:¬(48:Int) < (v.t.rts.length:Int):=by omega
 have d2i:¬(32:Int) < (v.t.pts.length:Int):=by omega
 cases d3:inB v.t.nsec 0 24 with
 | false=>
  have HX:=hE (z9a (y8j (Or.inr (Or.inr (Or.inl d3)))));have HC3:=hE fun W=>z1h (c:=25) d3 W (by omega)
  clear d1 d2 d3;go_enter Tryz.func21,Tryz.ntmps21
  go_wp2_with fail;refine (HC3.out _).mono ?_;rintro e wq ⟨rfl,rfl⟩;go_wp2_with fail
  go_ret
  exact ⟨z0i HX.out.symm,hB⟩
 | true=>
 cases d4:inB v.t.nsig 0 20 with
 | false=>
  have HX:=hE (z9a (y8j (Or.inr (Or.inr (Or.inr d4)))));have HC3:=hE fun W=>z1h (c:=25) d3 W (by omega)
  have HC4:=hE fun W=>z1h (c:=21) d4 W (by omega)
  clear d1 d2 d3 d4;go_enter Tryz.func21,Tryz.ntmps21
  go_wp2_with fail;refine (HC3.out _).mono ?_;rintro e wq ⟨rfl,rfl⟩;go_wp2_with fail
  refine (HC4.out _).mono ?_;rintro e wq ⟨rfl,rfl⟩;go_wp2_with fail
  go_ret
  exact ⟨z0i HX.out.symm,hB⟩
 | true=>
 have HLIM:=hE (j1z d1 d2 d3 d4);have hrl:v.t.rts.length≤48:=by omega
 have hn24:=(z1d.1 d3).2;have HC3:=hE fun W=>z1h (c:=25) d3 W (by omega)
 have HC4:=hE fun W=>z1h (c:=21) d4 W (by omega)
 clear d1 d2 d3 d4;go_enter Tryz.func21,Tryz.ntmps21
 go_wp2_with fail;refine (HC3.out _).mono ?_;rintro e wq ⟨rfl,rfl⟩;go_wp2_with fail
 refine (HC4.out _).mono ?_;rintro e wq ⟨rfl,rfl⟩;go_wp2_with fail
 cases e1:y40 v.t with
 | false=>
  have HX:=hE (x6g HLIM.out e1);refine (j9l v e1 _ hb0.rd (by omega)).mono ?_;rintro e w1 ⟨rfl,hq⟩;have hb1:=(hb0.now hq).bel;clear x0 x1 x2 x3 x4 hb0 e1;go_wp2_with fail
  go_ret
  exact ⟨z0i HX.out.symm,hb1⟩
 | true=>
 have HPT:=hE e1;refine (j9l v e1 _ hb0.rd (by omega)).mono ?_;rintro e w1 ⟨rfl,hq⟩;have hb1:=hb0.now hq;clear x0 x1 x2 x3 x4 hb0 e1 hq hB d1i d2i HC3 HC4;have x0:=hb1.x0;go_wp2_with fail
 clear x0;go_loopw [40] (fun n wr=>∃ k:Nat,k≤v.t.rts.length∧n=.int .i64 k∧Bx w wr v∧Hid ((v.t.rts.take k).all (z7p v.t)=true)) (fun n _=>v.t.rts.length - (intOf n).toNat)
 case atStart=>exact ⟨0,nZ,rfl,hb1,hE (by simp)⟩
 case round=>
  clear hb1;obtain ⟨k,hk,rfl,hb,HK⟩:=hrel;by_cases hlt:k < v.t.rts.length
  ·have hki:(k:Int) < (v.t.rts.length:Int):=by omega
   obtain ⟨b,off,r,hA,lb,hre,hrv,y0,y1,y2,y3,y4,y5,y6,y7,y8,y9,y10,y11,y12,y13⟩:=hb.rd.r1.elR hlt;have hrl3:=HSM.out _ (uE hlt);rw[←hre] at hrl3;have hre':v.t.rts[k]=r.r:=hre.symm;have hb2:=hb.alloc (.cells (z0f r) 56);have hRB:=RBx.new hrv;have x0:=hb.x0;rw[hA] at x0
   cases hc:z7p v.t r.r with
   | false=>
    have HX:=hE (x6h HLIM.out HPT.out (z4n hlt (by rw[hre'];exact hc)));have HC:=hE fun W hw hw2=>j6v (t:=v.t) v r hc W hw hw2 HLIM.out hrl3.1 hrl3.2
    clear hc HK hre hre' hrl3;have x0:=hb2.x0;have x1:=hb2.x1;have x2:=hb2.x2;have x3:=hb2.x3;have x4:=hb2.x4;rw[hA] at x0 ⊢;have HB2:=hE hb2;unfold tvA at HC;(try unfold z0s at HC);rw[hA] at HC;go_wp2_with fail
    refine (HC.out _ HB2.out.rd hRB.rd).mono ?_;rintro e w3 ⟨rfl,hq⟩;have hb3:=(HB2.out.now hq).bel;clear hb hb2 hRB;go_wp2_with fail
    go_ret
    exact ⟨z0i HX.out.symm,hb3⟩
   | true=>
    have HK2:=hE (z3v hlt HK.out (by rw[hre'];exact hc));have HC:=hE fun W hw hw2=>j6v (t:=v.t) v r hc W hw hw2 HLIM.out hrl3.1 hrl3.2
    clear hc HK hre hre' hrl3;have x0:=hb2.x0;have x1:=hb2.x1;have x2:=hb2.x2;have x3:=hb2.x3;have x4:=hb2.x4;rw[hA] at x0 ⊢;have HB2:=hE hb2;unfold tvA at HC;(try unfold z0s at HC);rw[hA] at HC;go_wp2_with fail
    refine (HC.out _ HB2.out.rd hRB.rd).mono ?_;rintro e w3 ⟨rfl,hq⟩;have hb3:=HB2.out.now hq;clear hb hb2 hRB x0 x1 x2 x3 x4;go_wp2_with fail
    go_roundw
    case rel=>exact ⟨k+1,by omega,by go_num,hb3,HK2⟩
    case measure=>simp[intOf];omega
  ·have HR1:=hE (z7c hlt HK.out);clear HK;have x0:=hb.x0;go_wp2_with fail
   clear x0;go_loopw [52] (fun n wr=>∃ k:Nat,k≤v.t.rts.length∧n=.int .i64 k∧Bx w wr v∧Hid ((v.t.rts.take k).all (setB v.t)=true)) (fun n _=>v.t.rts.length - (intOf n).toNat)
   case atStart=>exact ⟨0,nZ,rfl,hb,hE (by simp)⟩
   case round=>
    clear hb;obtain ⟨k,hk,rfl,hb,HK⟩:=hrel;by_cases hlt:k < v.t.rts.length
    ·have hki:(k:Int) < (v.t.rts.length:Int):=by omega
     obtain ⟨b,off,r,hA,lb,hre,hrv,y0,y1,y2,y3,y4,y5,y6,y7,y8,y9,y10,y11,y12,y13⟩:=hb.rd.r1.elR hlt;have hrl3:=HSM.out _ (uE hlt);rw[←hre] at hrl3;have hre':v.t.rts[k]=r.r:=hre.symm;have hb2:=hb.alloc (.cells (z0f r) 56);have hRB:=RBx.new hrv;have x0:=hb.x0;rw[hA] at x0;have HRE:=hE hre';have HKK:=hE HK.out;clear hre hre' hrl3 HK
     cases s0:y0q v.t r.r.pts with
     | false=>
      have HX:=hE (y3b HLIM.out HPT.out (z4n hlt (by rw[HRE.out];exact j3i s0)));have HC:=hE (j4m v r.r.pts s0 r.A2 r.c2 _ hb2.rd hRB.rd.r2 hRB.rd.o.n2.1);unfold tvA at HC;clear s0;have x0:=hb2.x0;have x1:=hb2.x1;have x2:=hb2.x2;have x3:=hb2.x3;have x4:=hb2.x4;have z4:=hRB.x4;have HBB:=hE hb2;have HRR:=hE hRB;(try unfold z0s at x0);(try unfold z0s at HC);(try unfold z0s at ⊢);rw[hA] at x0 HC ⊢;clear hb2 hRB;go_wp2_with fail
      refine HC.out.mono ?_;rintro e w3 ⟨rfl,hq⟩;have hb3:=HBB.out.now hq;have hR3:=HRR.out.now hq;clear HC HBB HRR hq z4 x0 x1 x2 x3 x4;go_wp2_with fail
      go_ret
      exact ⟨z0i HX.out.symm,hb3.bel⟩
     | true=>
      have S0:=hE s0;have HC:=hE (j4m v r.r.pts s0 r.A2 r.c2 _ hb2.rd hRB.rd.r2 hRB.rd.o.n2.1);unfold tvA at HC;clear s0;have x0:=hb2.x0;have x1:=hb2.x1;have x2:=hb2.x2;have x3:=hb2.x3;have x4:=hb2.x4;have z4:=hRB.x4;have HBB:=hE hb2;have HRR:=hE hRB;(try unfold z0s at x0);(try unfold z0s at HC);(try unfold z0s at ⊢);rw[hA] at x0 HC ⊢;clear hb2 hRB;go_wp2_with fail
      refine HC.out.mono ?_;rintro e w3 ⟨rfl,hq⟩;have hb3:=HBB.out.now hq;have hR3:=HRR.out.now hq;clear HC HBB HRR hq z4 x0 x1 x2 x3 x4
      cases s1:y0q v.t r.r.opts with
      | false=>
       have HX:=hE (y3b HLIM.out HPT.out (z4n hlt (by rw[HRE.out];exact j3j s1)));have HC:=hE (j4m v r.r.opts s1 r.A5 r.c5 w3 hb3.rd hR3.rd.r5 hR3.rd.o.n5.1);unfold tvA at HC;clear s1;have x0:=hb3.x0;have x1:=hb3.x1;have x2:=hb3.x2;have x3:=hb3.x3;have x4:=hb3.x4;have z9:=hR3.x9;have HBB:=hE hb3;have HRR:=hE hR3;(try unfold z0s at x0);(try unfold z0s at HC);rw[hA] at x0 HC;clear hb3 hR3;go_wp2_with fail
       refine HC.out.mono ?_;rintro e w4 ⟨rfl,hq⟩;have hb4:=HBB.out.now hq;have hR4:=HRR.out.now hq;clear HC HBB HRR hq z9 x0 x1 x2 x3 x4;go_wp2_with fail
       go_ret
       exact ⟨z0i HX.out.symm,hb4.bel⟩
      | true=>
       have S1:=hE s1;have HC:=hE (j4m v r.r.opts s1 r.A5 r.c5 w3 hb3.rd hR3.rd.r5 hR3.rd.o.n5.1);unfold tvA at HC;clear s1;have x0:=hb3.x0;have x1:=hb3.x1;have x2:=hb3.x2;have x3:=hb3.x3;have x4:=hb3.x4;have z9:=hR3.x9;have HBB:=hE hb3;have HRR:=hE hR3;(try unfold z0s at x0);(try unfold z0s at HC);rw[hA] at x0 HC;clear hb3 hR3;go_wp2_with fail
       refine HC.out.mono ?_;rintro e w4 ⟨rfl,hq⟩;have hb4:=HBB.out.now hq;have hR4:=HRR.out.now hq;clear HC HBB HRR hq z9 x0 x1 x2 x3 x4
       cases s2:y0q v.t r.r.flk with
       | false=>
        have HX:=hE (y3b HLIM.out HPT.out (z4n hlt (by rw[HRE.out];exact j3k s2)));have HC:=hE (j4m v r.r.flk s2 r.A7 r.c7 w4 hb4.rd hR4.rd.r7 hR4.rd.o.n7.1);unfold tvA at HC;clear s2;have x0:=hb4.x0;have x1:=hb4.x1;have x2:=hb4.x2;have x3:=hb4.x3;have x4:=hb4.x4;have z11:=hR4.x11;have HBB:=hE hb4;have HRR:=hE hR4;(try unfold z0s at x0);(try unfold z0s at HC);rw[hA] at x0 HC;clear hb4 hR4;go_wp2_with fail
        refine HC.out.mono ?_;rintro e w5 ⟨rfl,hq⟩;have hb5:=HBB.out.now hq;have hR5:=HRR.out.now hq;clear HC HBB HRR hq z11 x0 x1 x2 x3 x4;go_wp2_with fail
        go_ret
        exact ⟨z0i HX.out.symm,hb5.bel⟩
       | true=>
        have HK2:=hE (z3v hlt HKK.out (by rw[HRE.out];exact j3l S0.out S1.out s2));have HC:=hE (j4m v r.r.flk s2 r.A7 r.c7 w4 hb4.rd hR4.rd.r7 hR4.rd.o.n7.1);unfold tvA at HC;clear s2;have x0:=hb4.x0;have x1:=hb4.x1;have x2:=hb4.x2;have x3:=hb4.x3;have x4:=hb4.x4;have z11:=hR4.x11;have HBB:=hE hb4;have HRR:=hE hR4;(try unfold z0s at x0);(try unfold z0s at HC);rw[hA] at x0 HC;clear hb4 hR4;go_wp2_with fail
        refine HC.out.mono ?_;rintro e w5 ⟨rfl,hq⟩;have hb5:=HBB.out.now hq;have hR5:=HRR.out.now hq;clear HC HBB HRR hq z11 x0 x1 x2 x3 x4;go_wp2_with fail
        go_roundw
        case rel=>exact ⟨k+1,by omega,by go_num,hb5,HK2⟩
        case measure=>simp[intOf];omega
    ·have HR2:=hE (z7c hlt HK.out);clear HK;have x0:=hb.x0;go_wp2_with fail
     clear x0;go_loopw [79] (fun n wr=>∃ k:Nat,k≤v.t.rts.length∧n=.int .i64 k∧Bx w wr v∧Hid ((v.t.rts.take k).all agB=true)) (fun n _=>v.t.rts.length - (intOf n).toNat)
     case atStart=>exact ⟨0,nZ,rfl,hb,hE (by simp)⟩
     case round=>
      clear hb;obtain ⟨k,hk,rfl,hb,HK⟩:=hrel;by_cases hlt:k < v.t.rts.length
      ·have hki:(k:Int) < (v.t.rts.length:Int):=by omega
       obtain ⟨b,off,r,hA,lb,hre,hrv,y0,y1,y2,y3,y4,y5,y6,y7,y8,y9,y10,y11,y12,y13⟩:=hb.rd.r1.elR hlt;have hrl3:=HSM.out _ (uE hlt);rw[←hre] at hrl3;have hre':v.t.rts[k]=r.r:=hre.symm;have hb2:=hb.alloc (.cells (z0f r) 56);have hRB:=RBx.new hrv;have x0:=hb.x0;rw[hA] at x0;have HRE:=hE hre';have HKK:=hE HK.out;clear hre hre' hrl3 HK
       cases s0:y0x r.r.pts r.r.opts with
       | false=>
        have HX:=hE (y3a HLIM.out HPT.out HR1.out HR2.out (z4n hlt (by rw[HRE.out];exact j4q s0)));have HC:=hE (j4g r.r.pts r.r.opts s0 r.A2 r.A5 r.c2 r.c5 _ hRB.rd.r2 hRB.rd.r5 hRB.rd.o.n2.1 hRB.rd.o.n5.1);clear s0;have z4:=hRB.x4;have z9:=hRB.x9;have HBB:=hE hb2;have HRR:=hE hRB;rw[hA];clear hb2 hRB;go_wp2_with fail
        refine HC.out.mono ?_;rintro e w3 ⟨rfl,hq⟩;have hb3:=HBB.out.now hq;have hR3:=HRR.out.now hq;clear HC HBB HRR hq z4 z9 x0;go_wp2_with fail
        go_ret
        exact ⟨z0i HX.out.symm,hb3.bel⟩
       | true=>
        have S0:=hE s0;have HC:=hE (j4g r.r.pts r.r.opts s0 r.A2 r.A5 r.c2 r.c5 _ hRB.rd.r2 hRB.rd.r5 hRB.rd.o.n2.1 hRB.rd.o.n5.1);clear s0;have z4:=hRB.x4;have z9:=hRB.x9;have HBB:=hE hb2;have HRR:=hE hRB;rw[hA];clear hb2 hRB;go_wp2_with fail
        refine HC.out.mono ?_;rintro e w3 ⟨rfl,hq⟩;have hb3:=HBB.out.now hq;have hR3:=HRR.out.now hq;clear HC HBB HRR hq z4 z9 x0
        cases s1:y0x r.r.pts r.r.flk with
        | false=>
         have HX:=hE (y3a HLIM.out HPT.out HR1.out HR2.out (z4n hlt (by rw[HRE.out];exact j4r s1)));have HC:=hE (j4g r.r.pts r.r.flk s1 r.A2 r.A7 r.c2 r.c7 w3 hR3.rd.r2 hR3.rd.r7 hR3.rd.o.n2.1 hR3.rd.o.n7.1);clear s1;have z4:=hR3.x4;have z11:=hR3.x11;have HBB:=hE hb3;have HRR:=hE hR3;clear hb3 hR3;go_wp2_with fail
         refine HC.out.mono ?_;rintro e w4 ⟨rfl,hq⟩;have hb4:=HBB.out.now hq;have hR4:=HRR.out.now hq;clear HC HBB HRR hq z4 z11;go_wp2_with fail
         go_ret
         exact ⟨z0i HX.out.symm,hb4.bel⟩
        | true=>
         have S1:=hE s1;have HC:=hE (j4g r.r.pts r.r.flk s1 r.A2 r.A7 r.c2 r.c7 w3 hR3.rd.r2 hR3.rd.r7 hR3.rd.o.n2.1 hR3.rd.o.n7.1);clear s1;have z4:=hR3.x4;have z11:=hR3.x11;have HBB:=hE hb3;have HRR:=hE hR3;clear hb3 hR3;go_wp2_with fail
         refine HC.out.mono ?_;rintro e w4 ⟨rfl,hq⟩;have hb4:=HBB.out.now hq;have hR4:=HRR.out.now hq;clear HC HBB HRR hq z4 z11
         cases s2:y0x r.r.opts r.r.flk with
         | false=>
          have HX:=hE (y3a HLIM.out HPT.out HR1.out HR2.out (z4n hlt (by rw[HRE.out];exact j4s s2)));have HC:=hE (j4g r.r.opts r.r.flk s2 r.A5 r.A7 r.c5 r.c7 w4 hR4.rd.r5 hR4.rd.r7 hR4.rd.o.n5.1 hR4.rd.o.n7.1);clear s2;have z9:=hR4.x9;have z11:=hR4.x11;have HBB:=hE hb4;have HRR:=hE hR4;clear hb4 hR4;go_wp2_with fail
          refine HC.out.mono ?_;rintro e w5 ⟨rfl,hq⟩;have hb5:=HBB.out.now hq;have hR5:=HRR.out.now hq;clear HC HBB HRR hq z9 z11;go_wp2_with fail
          go_ret
          exact ⟨z0i HX.out.symm,hb5.bel⟩
         | true=>
          have HK2:=hE (z3v hlt HKK.out (by rw[HRE.out];exact j4t S0.out S1.out s2));have HC:=hE (j4g r.r.opts r.r.flk s2 r.A5 r.A7 r.c5 r.c7 w4 hR4.rd.r5 hR4.rd.r7 hR4.rd.o.n5.1 hR4.rd.o.n7.1);clear s2;have z9:=hR4.x9;have z11:=hR4.x11;have HBB:=hE hb4;have HRR:=hE hR4;clear hb4 hR4;go_wp2_with fail
          refine HC.out.mono ?_;rintro e w5 ⟨rfl,hq⟩;have hb5:=HBB.out.now hq;have hR5:=HRR.out.now hq;clear HC HBB HRR hq z9 z11;go_wp2_with fail
          go_roundw
          case rel=>exact ⟨k+1,by omega,by go_num,hb5,HK2⟩
          case measure=>simp[intOf];omega
      ·have HR3:=hE (z7c hlt HK.out);clear HK;have x0:=hb.x0;have hst:=z8v.made wr Tryz.prog 9 4 _ rfl;have hb1:=hb.alloc (.map #[] 0);have hgm:=hb.lt;have hmm:=@run_makeMap Tryz.prog;go_wp2_with fail
       clear x0 hb hmm;generalize wr.alloc (.map #[] 0)=W9 at *;generalize wr.heap.size=gm at *;go_loopw [110] (fun n wr=>∃ k:Nat,k≤v.t.rts.length∧n=.int .i64 k∧Bx w wr v∧z8v Tryz.prog 9 4 wr gm k (((v.t.rts.take k).map Rou.name).map Lit.string)∧Hid (((v.t.rts.map Rou.name).take k).Nodup)) (fun n _=>v.t.rts.length - (intOf n).toNat)
       case atStart=>exact ⟨0,nZ,rfl,hb1,hst,hE (by simp)⟩
       case round=>
        clear hb1 hst;obtain ⟨k,hk,rfl,hb,hst,HK⟩:=hrel;by_cases hlt:k < v.t.rts.length
        ·have hki:(k:Int) < (v.t.rts.length:Int):=by omega
         obtain ⟨b,off,r,hA,lb,hre,hrv,y0,y1,y2,y3,y4,y5,y6,y7,y8,y9,y10,y11,y12,y13⟩:=hb.rd.r1.elR hlt;have hrl3:=HSM.out _ (uE hlt);rw[←hre] at hrl3;have hre':v.t.rts[k]=r.r:=hre.symm;have hb2:=hb.alloc (.cells (z0f r) 56);have hRB:=RBx.new hrv;have x0:=hb.x0;rw[hA] at x0;have hnl:=hrv.o.nm;have hkey:=hE (y0p r.r.name hnl);have hst2:=hst.alloc (.cells (z0f r) 56);have hany:=j6g (l:=v.t.rts) (k:=k) r.r.name;have z0:=hRB.x0
         cases hd:decide (r.r.name∈(v.t.rts.map Rou.name).take k) with
         | true=>
          have HX:=hE (x6f HLIM.out HPT.out HR1.out HR2.out HR3.out (j5k hlt (by rw[hre'];exact oDt hd)));have HAN:=hE (hany.trans hd);have hB:=hb2.bel;clear hd hany HK hre hre' hrl3 hRB hb2;rw[hA];generalize ((v.t.rts.take k).map Rou.name).map Lit.string=ks at *;go_wp2_with (at_lookup;go_loud (refine z0t _ rfl _ _ 114 rfl 9 4 z7u Tryz.underlying114 Tryz.underlying4 (z4m _) gm k ks rfl hst2 _ _ rfl hkey.out true HAN.out ?_))
          go_ret
          exact ⟨z0i HX.out.symm,by first | exact hB | (rw[hA];exact hB)⟩
         | false=>
          have HT:=hE (j6i hlt HK.out (by rw[hre'];exact of_decide_eq_false hd));have HAN:=hE (hany.trans hd);have HKS:Hid (((v.t.rts.take (k+1)).map Rou.name).map Lit.string=((v.t.rts.take k).map Rou.name).map Lit.string++[.string r.r.name]):=hE (by rw[tqS hlt,List.map_append,List.map_append,hre'];rfl);have HB2:=hE hb2;have hgk:gm≠w.heap.size:=by omega
          have hgw:w.heap.size≤gm:=by omega
          clear hd hany HK hre hre' hrl3 hRB hb2;have HA:=hE hA;rw[hA];generalize ((v.t.rts.take k).map Rou.name).map Lit.string=ks at *;go_wp2_with (first | (at_lookup;go_loud (refine z0t _ rfl _ _ 114 rfl 9 4 z7u Tryz.underlying114 Tryz.underlying4 (z4m _) gm k ks rfl hst2 _ _ rfl hkey.out false HAN.out ?_)) | (at_mapUpdate;go_loud (refine z3c _ rfl _ _ _ 114 rfl 9 4 z7u Tryz.underlying114 Tryz.underlying4 gm k ks rfl hst2 (by unfold maxLen;omega) _ _ rfl rfl hkey.out ?_);intro w6 hst6 hgr6))
          go_roundw
          case rel=>exact ⟨k+1,by omega,by go_num,HB2.out.grow hr hgr6 hgw hgk,by rw[HKS.out];exact hst6,HT⟩
          case measure=>simp[intOf];omega
        ·have HX:=hE (y83 HLIM.out HPT.out HR1.out HR2.out HR3.out (by have h1:=HK.out;rwa [tlL (by simp;omega)] at h1));have hB:=hb.bel;go_wp2_with fail
         go_ret;exact ⟨z0i HX.out.symm,hB⟩
end Go.Proofs.YtpenlfedkacglaaGreatDoor
