import Derived.Test.YtpenlfedkacglaaGreatDoorL11
set_option maxRecDepth 100000
set_option maxHeartbeats 40000000
set_option linter.all false
namespace Go.Proofs.YtpenlfedkacglaaGreatDoor
open Go.RowKit
def x1z {α:Type} (xs:List α) (o:Nat) (vs:List α):List α:=xs.take o++(vs++xs.drop (o+vs.length))
theorem y9i {α:Type} {xs:List α} {o:Nat} {vs:List α} (h:o+vs.length≤xs.length):(x1z xs o vs).length=xs.length:=by
 unfold x1z;rw[qL,qL,lTk,List.length_drop];omega
theorem z9q {α:Type} {xs:List α} {o:Nat} {vs:List α} (h:o+vs.length≤xs.length) (i:Nat):(x1z xs o vs)[i]? = if o≤i∧i < o+vs.length then vs[i - o]? else xs[i]?:=by
 unfold x1z;by_cases h1:i < o
 ·rw[if_neg (by omega),List.getElem?_append_left (by rw[lTk];omega),List.getElem?_take_of_lt h1]
 ·rw[List.getElem?_append_right (by rw[lTk];omega),lTk,Nat.min_eq_left (by omega)];by_cases h2:i < o+vs.length
  ·rw[if_pos ⟨by omega,h2⟩,List.getElem?_append_left (by omega)]
  ·rw[if_neg (by omega),List.getElem?_append_right (by omega),List.getElem?_drop];congr 1;omega
theorem x57 {α:Type} {xs:List α} {o:Nat} {v:α} {r:List α} (h:o+(v::r).length≤xs.length):x1z (xs.set o v) (o+1) r=x1z xs o (v::r):=by
 have h':=h;simp only[lCn] at h';apply List.ext_getElem?;intro i;rw[z9q h,z9q (by rw[List.length_set];omega),lCn];by_cases h2:i=o
 ·subst h2;rw[if_neg (by omega),if_pos ⟨nL,by omega⟩,Nat.sub_self,List.getElem?_set_self (by omega)];rfl
 ·rw[List.getElem?_set_ne (fun e=>h2 e.symm)];by_cases h3:o+1≤i∧i < o+1+r.length
  ·rw[if_pos h3,if_pos ⟨by omega,by omega⟩,show i - o=(i - (o+1))+1 by omega];rfl
  ·rw[if_neg h3,if_neg (by omega)]
theorem z4d {b:Nat} {T:TypeId} {fr:Nat × Nat}:∀ (vs:List Value) (o:Nat) {w:World} {cur:Array Value},w.heap[b]? = some (.cells cur T fr)→o+vs.length≤cur.size→∃ cur':Array Value,(w.setCells b o vs).heap[b]? = some (.cells cur' T fr)∧cur'.toList=x1z cur.toList o vs
 | [],o,w,cur,h,_=>⟨cur,h,by simp[x1z]⟩
 | v::r,o,w,cur,h,hl=>by
  simp only[lCn] at hl;obtain ⟨cur',h1,h2⟩:=z4d r (o+1) (z3a (j:=o) (u:=v) h) (by simp;omega);refine ⟨cur',h1,?_⟩;rw[h2,Array.toList_setIfInBounds,x57 (by simp;omega)]
theorem z0l {w:World} {base b:Nat} {T:TypeId}:∀ (vs:List Value) (o:Nat) {w:World} {cur:Array Value},w.heap[b]? = some (.cells cur T (0,0))→base≤b→Frm base T w (w.setCells b o vs)
 | [],_,_,_,_,_=>Frm.refl _ _ _
 | v::r,o,_,_,h,hb=>(y3r h hb o v).trans (z0l (w:=w) r (o+1) (z3a h) hb)
theorem x59 {α:Type} {c:Cod α} {w:World} {S:Nat→Prop}:∀ {l:List α} {xs:List Value} {k:Nat} {ys:List Value} {y:α},RdC c w S xs l→k < l.length→c.rd w S ys y→RdC c w S (x1z xs (k*c.size) ys) (l.set k y)
 | a::l,xs,0,ys,y,⟨y0,z0,h1,h2,h3⟩,_,hy=>by
  have e1:=c.len h2;have e2:=c.len hy;refine ⟨ys,z0,?_,hy,h3⟩;subst h1;unfold x1z
  rw[Nat.zero_mul,List.take_zero,List.nil_append,Nat.zero_add,e2,←e1,List.drop_left]
 | a::l,xs,k+1,ys,y,⟨y0,z0,h1,h2,h3⟩,hk,hy=>by
  have e1:=c.len h2;have ih:=x59 (k:=k) h3 (by simpa using hk) hy;refine ⟨y0,_,?_,h2,ih⟩;subst h1;unfold x1z;rw[Nat.succ_mul,Nat.add_comm (k*c.size) c.size,←e1,List.take_append,List.drop_append];rw[tlL (by omega),Nat.add_sub_cancel_left,List.drop_of_length_le (by omega),List.nil_append,List.append_assoc];congr 4;omega
theorem x4w {α:Type} {c:Cod α} (hc:Flat c) {w:World} {base g cap k:Nat} {e:TypeId} {l:List α} {ys:List Value} {y:α} (h:z09 c w base e (.slice (some ⟨g,0,none⟩) l.length cap) l 0) (hk:k < l.length) (hy:∀ w S,c.rd w S ys y) :
  z09 c (w.setCells g (k*c.size) ys) base e (.slice (some ⟨g,0,none⟩) l.length cap) (l.set k y) 0∧Frm base e w (w.setCells g (k*c.size) ys):=by
 obtain ⟨xs,h1,h2,h3⟩:=h;have hyl:=c.len (hy w (fun _=>True));rcases h1.2 with ⟨hv,_⟩ | ⟨g',cap',cur,hv,hb,hg,hcap,hm,hsz,ht⟩
 ·cases hv
 ·simp only[Value.slice.injEq,qE,Addr.mk.injEq,and_true] at hv;obtain ⟨rfl,-,rfl⟩:=hv;have hle:k*c.size+ys.length≤l.length*c.size:=by
   rw[hyl];have:=Nat.mul_le_mul_right c.size (show k+1≤l.length from hk);rw[Nat.succ_mul] at this;exact this
  have hle2:l.length*c.size≤cap*c.size:=Nat.mul_le_mul_right _ hcap;obtain ⟨cur',h4,h5⟩:=z4d ys (k*c.size) hg (by omega);have hx:cur.toList.take (l.length*c.size)=xs:=ht;have hxl:xs.length=l.length*c.size:=h1.1;have hcl:cur.toList.length=cap*c.size:=by simpa using hsz
  refine ⟨⟨x1z xs (k*c.size) ys,⟨?_,Or.inr ⟨g,cap,cur',by rw[List.length_set],hb,h4,by rw[List.length_set];exact hcap,hm,?_,?_⟩⟩,RdC.x0n hc (x59 h2 hk (hy _ _)),nZ⟩,z0l (w:=w) ys _ hg hb⟩
  ·rw[y9i (by rw[hxl];exact hle),List.length_set];exact hxl
  ·have:cur'.toList.length=cur.toList.length:=by rw[h5,y9i (by rw[hcl];omega)]
   rw[hcl] at this;simpa using this
  ·rw[List.length_set,h5];apply List.ext_getElem?;intro i;rw[z9q (by rw[hxl];exact hle)];by_cases hi:i < l.length*c.size
   ·rw[List.getElem?_take_of_lt hi,z9q (by rw[hcl];omega),←hx,List.getElem?_take_of_lt hi]
   ·rw[List.getElem?_take_eq_none (by omega),if_neg (by omega),List.getElem?_eq_none (by omega)]
end Go.Proofs.YtpenlfedkacglaaGreatDoor
namespace Go.Proofs.YtpenlfedkacglaaGreatDoor
open Go.RowKit
attribute [local go_sem] z05 z07 z01 z02
attribute [-go_sem] run_equalIn_agg
attribute [-go_sem] loadCellsFrom
theorem z04 {w:World} {g:Nat} {T:TypeId} {cs:Array Value} (h:Blk w g T cs) (n:Nat) (hn:cs.size=n):Sem.run Tryz.prog (loadCellsFrom ⟨g,0,none⟩ 0 n #[]) w=.ok cs w:=by
 have:=run_loadCellsFrom_list Tryz.prog w ⟨g,0,none⟩ cs.toList n (by simpa using hn) (fun i v hi=>by
  rw[Addr.add_lit,Nat.zero_add,h.cell];simpa using hi)
 simpa using this
theorem z2e {w:World} {b o n:Nat} {ys:List Value} (hn:ys.length=n) (h:∀ (j:Nat) (u:Value),ys[j]? = some u→w.cell? ⟨b,o+j,none⟩=some u):Sem.run Tryz.prog (loadCellsFrom ⟨b,o,none⟩ 0 n #[]) w=.ok ys.toArray w:=
 run_loadCellsFrom_list Tryz.prog w ⟨b,o,none⟩ ys n hn (fun i v hi=>by rw[Addr.add_lit];exact h i v hi)
theorem z2s {α:Type} {c:Cod α} {w:World} {base:Nat} {e T:TypeId} {A:Option Addr} {cap:Nat} {l:List α} (h:z09 c w base e (.slice A l.length cap) l 0) (hT:e≠T):(l.length≤maxLen∧l.length≤cap)∧RdS c w (Sep w T w.heap.size) A l:=by
 obtain ⟨A',cap',he,hn,hx⟩:=h.rds (S:=Sep w T w.heap.size) (fun b cs hb _=>⟨z0j hb,fun cs' fr hx=>by rw[hb] at hx;simp only[qE,Obj.cells.injEq] at hx;exact hT hx.2.1⟩) (fun b hb=>absurd hb.1 (Nat.not_lt_zero _));simp only[Value.slice.injEq] at he;obtain ⟨rfl,-,rfl⟩:=he;exact ⟨hn,hx⟩
theorem j2m {s:List UInt8} (h:nameB s=true):s.length≤12:=by
 unfold nameB at h;simp only[uT,dET] at h;exact h.1.2
theorem x2o (v:LV) (k:Nat) (hkl:k < v.l.sgs.length) (path:List Stp) (A:Option Addr) (cap:Nat) (w:World) (E:EnvR w) (hK:z9a v.l) (hr:LvR w v) (hw:RdS z1h w (Sep w 56 w.heap.size) A path) (h0:0 < path.length) (hl:path.length≤12) (hcap:path.length≤cap) :
  Calls Tryz.prog 81 #[lvA v,.int .i64 (k:Int),.slice A path.length cap] w fun e w'=>∃ rv:z2v,e=.returned (.agg (z0e rv))∧rv.r=z2c v.l k path∧RvR w' (Sep w' 56 w'.heap.size) rv∧Below w.heap.size w w':=by
 have hwl:RdS z1h w (Lt w) A path:=hw.more fun b h=>h.1
 obtain ⟨W2,hW2⟩:∃ W,W=(w.alloc (.cells (z1c v) 28)).alloc (.cells #[.string (ByteArray.mk #[]),.int .i64 0,.int .i64 0,.slice none 0 0,.slice none 0 0,.slice none 0 0,.int .i64 0,.int .i64 0,.slice none 0 0,.slice none 0 0,.slice none 0 0,.slice none 0 0,.slice none 0 0,.slice none 0 0] 56):=⟨_,rfl⟩
 have hb2:Below w.heap.size w W2:=by rw[hW2];exact (bQ.alloc nL _).alloc (by simp) _
 have hx0:Blk W2 w.heap.size 28 (z1c v):=by rw[hW2];exact (Blk.new _ _ _ _ rfl).alloc _
 have hx1:Blk W2 (w.heap.size+1) 56 #[.string (ByteArray.mk #[]),.int .i64 0,.int .i64 0,.slice none 0 0,.slice none 0 0,.slice none 0 0,.int .i64 0,.int .i64 0,.slice none 0 0,.slice none 0 0,.slice none 0 0,.slice none 0 0,.slice none 0 0,.slice none 0 0]:=by rw[hW2];exact Blk.new _ _ _ _ (by simp)
 have hn:=hr.n4.1;unfold maxLen at hn;obtain ⟨b4,off4,hA4,lb4,ho4,q0,q1,q2,q3⟩:=(hr.now hb2).r4.x36 hkl;have hki:(k:Int) < (v.l.sgs.length:Int):=by omega
 have HA4:=hE hA4
 have LS:Hid (∀ (j:Nat) (y:Value),[.string (bs v.l.sgs[k].name),.int .i64 v.l.sgs[k].pos.el,.int .i64 v.l.sgs[k].pos.sd,.int .i64 v.l.sgs[k].ovl][j]? = some y→W2.cell? ⟨b4,off4+k*4+j,none⟩=some y):=hE fun j y hy=>match j,hy with
  | 0,hy=>(sJ hy)▸q0
  | 1,hy=>(sJ hy)▸q1
  | 2,hy=>(sJ hy)▸q2
  | 3,hy=>(sJ hy)▸q3
 have lds:=z2e (b:=b4) (o:=off4+k*4) (n:=4) rfl LS.out;have hr4:=(hr.now hb2).r4;have hnm:∀ j (h:j < v.l.sgs.length),nameB v.l.sgs[j].name=true:=fun j h=>(hK.sg _ (uE h)).2
 have HBR:Hid (z2c v.l k path = { zR with name:=v.l.sgs[k].name++45::(if 0≤y4j v.l (z3h path) then y82 v.l (y4j v.l (z3h path)) else endW),ent:=k,ext:=y4j v.l (z3h path),path:=path,pts:=z1a v.l path,secs:=z0y v.l path,app:=z0d v.l v.l.sgs[k].pos.el,len:=z1i v.l path }):=hE (by unfold z2c;simp[y82,y4i,hkl]);have x4:=(hx0.cell 4).trans (by unfold z1c;rw[HA4.out];rfl:_=some (Value.slice (some ⟨b4,off4,none⟩) v.l.sgs.length v.c4));have lx:=hx0.lt;have lb4':b4 < W2.heap.size:=lb4;have hnk:=hnm k hkl;have hzg:=z8e (v.l.sgs.map Sgn.pos) (z3h path);rw[List.length_map] at hzg;have HZG:=hE (show -1≤y4j v.l (z3h path)∧y4j v.l (z3h path) < v.l.sgs.length from hzg);have HAP:=hE (hK.el _ (hK.sg _ (uE hkl)).1);have hng:=hK.ng;have hns:=hK.ns;have hwk:=y4n hK path 0;have HWK:=hE (show 0≤z1i v.l path∧z1i v.l path≤1000000*path.length by unfold z1i;omega);clear hwk;generalize hsg:v.l.sgs[k]=sg at *;clear hA4 q0 q1 q2 q3 hsg hzg lb4;unfold lvA;go_enter Tryz.func81,Tryz.ntmps81
 go_upto_region 1 with (fail)
 rw[←hW2];clear hW2;obtain ⟨W3,hW3⟩:∃ W,W=W2.alloc (.cells #[.string (bs sg.name),.int .i64 sg.pos.el,.int .i64 sg.pos.sd,.int .i64 sg.ovl] 105):=⟨_,rfl⟩
 have hbe3:Below W2.heap.size W2 W3:=by rw[hW3];exact bQ.alloc nL _
 have hxs:Blk W3 W2.heap.size 105 #[.string (bs sg.name),.int .i64 sg.pos.el,.int .i64 sg.pos.sd,.int .i64 sg.ovl]:=by rw[hW3];exact Blk.new _ _ _ _ rfl
 have hb3:=z00 hb2 hb2.size hbe3;have hx03:=hx0.now hbe3;have hx13:=hx1.now hbe3;have h12:path.length≤1000:=by omega
 have HLF:=hE fun W' (h:Below W3.heap.size W3 W')=>y8u path A cap W' (hwl.now (z00 hb3 hb3.size h)) h0 (by omega)
 have HSG:=hE fun W' (h:Below W3.heap.size W3 W')=>z6k v (z3h path) W' (hr.now (z00 hb3 hb3.size h))
 have HSS:Hid (∀ W,Blk W w.heap.size 28 (z1c v)→Sem.run Tryz.prog (loadCellsFrom ⟨w.heap.size,0,none⟩ 0 6 #[]) W=.ok (z1c v) W):=hE fun W h=>z04 h 6 rfl
 go_wp2_with fail;rw[←hW3];clear hW3 lds x4 lx;refine rgR 6 HSS hx03.drew fun hHeld=>?_
 refine tkM 2 [0,1] ?_;refine rd1 2 rfl fun K hK=>?_
 go_simp;go_at_call 121
 refine (HLF.out _ bQ.drew).mono ?_;rintro e w4 ⟨rfl,hq4⟩;have hq4':Below W3.heap.size W3 w4:=bQ.drew.trans hq4;go_wp2_with fail
 refine hK.out _ _ (HSS.out _ (hx03.now hq4')) (fun hHeld=>?_);clear hK K;try simp only[Act.put,lsa,lsz,lss]
 refine rd1 3 rfl fun K hK=>?_
 go_simp;go_at_call 118
 refine (HSG.out _ hq4').mono ?_;rintro e w5 ⟨rfl,hq5⟩;have hq5':Below W3.heap.size W3 w5:=z00 hq4' hq4'.size hq5;go_wp2_with fail
 refine hK.out _ _ (HSS.out _ (hx03.now hq5')) (fun hHeld=>?_);clear hK K;try simp only[Act.put,lsa,lsz,lss]
 refine tkM 2 [4,5] ?_;refine wdn ?_;have hb5:=z00 hb3 hb3.size hq5';have hx05:=hx03.now hq5';have hx15:=hx13.now hq5';have hxs5:=hxs.now hq5';have hbw5:Below W2.heap.size W2 w5:=z00 hbe3 hbe3.size hq5';obtain ⟨z,hz⟩:∃ z,z5k (v.l.sgs.map Sgn.pos) (z3h path)=z:=⟨_,rfl⟩
 have hzs:y4j v.l (z3h path)=z:=hz;rw[hzs] at HBR HZG;rw[hz];have hz1:=HZG.out;clear hz hzs HLF HSG hq4 hq4' hq5 hx0 hx1 hbe3 hHeld;have HST:=hE fun W' (h:Below w5.heap.size w5 W')=>z8v v path A cap W' (E.now (z00 hb5 hb5.size h)) (hr.now (z00 hb5 hb5.size h)) (hwl.now (z00 hb5 hb5.size h)) h12
 have HSE:=hE fun W' (h:Below w5.heap.size w5 W')=>z8u v path A cap W' (hr.now (z00 hb5 hb5.size h)) (hwl.now (z00 hb5 hb5.size h)) h12
 have HSC:=hE fun W' (h:Below w5.heap.size w5 W')=>z3c v sg.pos.el W' (hr.now (z00 hb5 hb5.size h))
 have HWL:=hE fun W' (h:Below w5.heap.size w5 W')=>y9w v hK path A cap W' (hr.now (z00 hb5 hb5.size h)) (hwl.now (z00 hb5 hb5.size h)) h12
 have hE1:bs sg.name++(ByteArray.mk #[45])=bs (sg.name++[45]):=z01 sg.name [45];have hna:¬9223372036854775807 < sg.name.length+1:=by have:=j2m hnk;omega
 have hE2:(ByteArray.mk #[101,110,100])=bs endW:=rfl;have HS5:Hid (∀ W,Blk W w.heap.size 28 (z1c v)→Blk W W2.heap.size 105 #[.string (bs sg.name),.int .i64 sg.pos.el,.int .i64 sg.pos.sd,.int .i64 sg.ovl]→(fun w'=>Sem.run Tryz.prog (loadCellsFrom ⟨w.heap.size,0,none⟩ 0 6 #[]) w' = .ok (z1c v) w'∧w'.cell? ⟨W2.heap.size,0,none⟩=some (.string (bs sg.name))∧w'.cell? ⟨W2.heap.size,1,none⟩=some (.int .i64 sg.pos.el)) W):=hE fun W h1 h2=>⟨z04 h1 6 rfl,h2.cell 0,h2.cell 1⟩
 by_cases hzp:0≤z
 ·obtain ⟨j,rfl⟩:∃ j:Nat,z=j:=⟨z.toNat,by omega⟩
  have HZP:=hE hzp;have hj:j < v.l.sgs.length:=by omega
  have hji:(j:Int) < (v.l.sgs.length:Int):=by omega
  obtain ⟨b',off',hA',lb',ho',q0,-,-,-⟩:=(hr.now hb5).r4.x36 hj;rw[HA4.out] at hA';simp only[qE,Addr.mk.injEq,and_true] at hA';obtain ⟨rfl,rfl⟩:=hA';have x4:=(hx05.cell 4).trans (by unfold z1c;rw[HA4.out];rfl:_=some (Value.slice (some ⟨b4,off4,none⟩) v.l.sgs.length v.c4));have lx:=hx05.lt;have lb5:b4 < w5.heap.size:=lb';have HNJ:Hid (y82 v.l (j:Int)=v.l.sgs[j].name):=hE (by simp[y82,hj]);have hnj:=j2m (hnm j hj);generalize v.l.sgs[j].name=nj at *;have hnb:¬9223372036854775807 < sg.name.length+1+nj.length:=by have:=j2m hnk;omega
  go_wp2_with fail;clear x4 lx q0;refine j8a 24 HS5 hx05.drew hxs5.drew fun hHeld=>?_
  refine tkM 18 [0,1,2,3,4,5,6,7,8,9,11,12,14,15,16,17,19,20] ?_;refine rd1 10 rfl fun K hK=>?_
  go_simp;go_at_call 48
  refine (HST.out _ bQ.drew).mono ?_;rintro e w6 ⟨B2,d2,rfl,ho6,hq6⟩;have hq6':Below w5.heap.size w5 w6:=bQ.drew.trans hq6;go_wp2_with fail
  refine hK.out _ _ (HS5.out _ (hx05.now hq6') (hxs5.now hq6')) (fun hHeld=>?_);clear hK K;try simp only[Act.put,lsa,lsz,lss]
  refine rd1 13 rfl fun K hK=>?_
  go_simp;go_at_call 49
  refine (HSE.out _ hq6').mono ?_;rintro e w7 ⟨B3,d3,rfl,ho7,hq7⟩;have hq7':Below w5.heap.size w5 w7:=z00 hq6' hq6'.size hq7;go_wp2_with fail
  refine hK.out _ _ (HS5.out _ (hx05.now hq7') (hxs5.now hq7')) (fun hHeld=>?_);clear hK K;try simp only[Act.put,lsa,lsz,lss]
  refine rd1 18 rfl fun K hK=>?_
  go_simp;go_at_call 18
  refine (HSC.out _ hq7').mono ?_;rintro e w8 ⟨rfl,hq8⟩;have hq8':Below w5.heap.size w5 w8:=z00 hq7' hq7'.size hq8;go_wp2_with fail
  refine hK.out _ _ (HS5.out _ (hx05.now hq8') (hxs5.now hq8')) (fun hHeld=>?_);clear hK K;try simp only[Act.put,lsa,lsz,lss]
  refine rd1 21 rfl fun K hK=>?_
  go_simp;go_at_call 93
  refine (HWL.out _ hq8').mono ?_;rintro e w9 ⟨rfl,hq9⟩;have hq9':Below w5.heap.size w5 w9:=z00 hq8' hq8'.size hq9;go_wp2_with fail
  refine hK.out _ _ (HS5.out _ (hx05.now hq9') (hxs5.now hq9')) (fun hHeld=>?_);clear hK K;try simp only[Act.put,lsa,lsz,lss]
  refine tkM 1 [22] ?_;have hz9:=hx15.now hq9';have r0:=hz9.cell 0;have r1:=hz9.cell 1;have r2:=hz9.cell 2;have r3:=hz9.cell 3;have r4:=hz9.cell 4;have r5:=hz9.cell 5;have r6:=hz9.cell 6;have r7:=hz9.cell 7;have r8:=hz9.cell 8;have r9:=hz9.cell 9;have r10:=hz9.cell 10;have r11:=hz9.cell 11;have r12:=hz9.cell 12;have r13:=hz9.cell 13;have rf:=hz9.free;have rl:=hz9.lt;simp only[gqA,gqZ,gqS] at r0 r1 r2 r3 r4 r5 r6 r7 r8 r9 r10 r11 r12 r13;have hfr:Frm (w.heap.size+1) 56 w9 ((((((((((((((w9.setCell ⟨w.heap.size+1,0,none⟩ (.string (bs (sg.name++45::nj)))).setCell ⟨w.heap.size+1,1,none⟩ (.int .i64 (k:Int))).setCell ⟨w.heap.size+1,2,none⟩ (.int .i64 (j:Int))).setCell ⟨w.heap.size+1,3,none⟩ (.slice A path.length cap)).setCell ⟨w.heap.size+1,4,none⟩ (.slice B2 (z1a v.l path).length d2)).setCell ⟨w.heap.size+1,5,none⟩ (.slice B3 (z0y v.l path).length d3)).setCell ⟨w.heap.size+1,6,none⟩ (.int .i64 (z0d v.l sg.pos.el))).setCell ⟨w.heap.size+1,7,none⟩ (.int .i64 (z1i v.l path))).setCell ⟨w.heap.size+1,8,none⟩ (.slice none 0 0)).setCell ⟨w.heap.size+1,9,none⟩ (.slice none 0 0)).setCell ⟨w.heap.size+1,10,none⟩ (.slice none 0 0)).setCell ⟨w.heap.size+1,11,none⟩ (.slice none 0 0)).setCell ⟨w.heap.size+1,12,none⟩ (.slice none 0 0)).setCell ⟨w.heap.size+1,13,none⟩ (.slice none 0 0)):=z0l (w:=w9) [.string (bs (sg.name++45::nj)),.int .i64 (k:Int),.int .i64 (j:Int),.slice A path.length cap,.slice B2 (z1a v.l path).length d2,.slice B3 (z0y v.l path).length d3,.int .i64 (z0d v.l sg.pos.el),.int .i64 (z1i v.l path),.slice none 0 0,.slice none 0 0,.slice none 0 0,.slice none 0 0,.slice none 0 0,.slice none 0 0] 0 hz9 nL;have hp:Blk ((((((((((((((w9.setCell ⟨w.heap.size+1,0,none⟩ (.string (bs (sg.name++45::nj)))).setCell ⟨w.heap.size+1,1,none⟩ (.int .i64 (k:Int))).setCell ⟨w.heap.size+1,2,none⟩ (.int .i64 (j:Int))).setCell ⟨w.heap.size+1,3,none⟩ (.slice A path.length cap)).setCell ⟨w.heap.size+1,4,none⟩ (.slice B2 (z1a v.l path).length d2)).setCell ⟨w.heap.size+1,5,none⟩ (.slice B3 (z0y v.l path).length d3)).setCell ⟨w.heap.size+1,6,none⟩ (.int .i64 (z0d v.l sg.pos.el))).setCell ⟨w.heap.size+1,7,none⟩ (.int .i64 (z1i v.l path))).setCell ⟨w.heap.size+1,8,none⟩ (.slice none 0 0)).setCell ⟨w.heap.size+1,9,none⟩ (.slice none 0 0)).setCell ⟨w.heap.size+1,10,none⟩ (.slice none 0 0)).setCell ⟨w.heap.size+1,11,none⟩ (.slice none 0 0)).setCell ⟨w.heap.size+1,12,none⟩ (.slice none 0 0)).setCell ⟨w.heap.size+1,13,none⟩ (.slice none 0 0)) (w.heap.size+1) 56 #[.string (bs (sg.name++45::nj)),.int .i64 (k:Int),.int .i64 (j:Int),.slice A path.length cap,.slice B2 (z1a v.l path).length d2,.slice B3 (z0y v.l path).length d3,.int .i64 (z0d v.l sg.pos.el),.int .i64 (z1i v.l path),.slice none 0 0,.slice none 0 0,.slice none 0 0,.slice none 0 0,.slice none 0 0,.slice none 0 0]:=by
   obtain ⟨cur',h1,h2⟩:=z4d [.string (bs (sg.name++45::nj)),.int .i64 (k:Int),.int .i64 (j:Int),.slice A path.length cap,.slice B2 (z1a v.l path).length d2,.slice B3 (z0y v.l path).length d3,.int .i64 (z0d v.l sg.pos.el),.int .i64 (z1i v.l path),.slice none 0 0,.slice none 0 0,.slice none 0 0,.slice none 0 0,.slice none 0 0,.slice none 0 0] 0 hz9 (by simp);have h3:cur' = #[.string (bs (sg.name++45::nj)),.int .i64 (k:Int),.int .i64 (j:Int),.slice A path.length cap,.slice B2 (z1a v.l path).length d2,.slice B3 (z0y v.l path).length d3,.int .i64 (z0d v.l sg.pos.el),.int .i64 (z1i v.l path),.slice none 0 0,.slice none 0 0,.slice none 0 0,.slice none 0 0,.slice none 0 0,.slice none 0 0]:=Array.toList_inj.1 h2;rw[h3] at h1;exact h1
  have hb9:=z00 hb5 hb5.size hq9';have hbX:Below w.heap.size w ((((((((((((((w9.setCell ⟨w.heap.size+1,0,none⟩ (.string (bs (sg.name++45::nj)))).setCell ⟨w.heap.size+1,1,none⟩ (.int .i64 (k:Int))).setCell ⟨w.heap.size+1,2,none⟩ (.int .i64 (j:Int))).setCell ⟨w.heap.size+1,3,none⟩ (.slice A path.length cap)).setCell ⟨w.heap.size+1,4,none⟩ (.slice B2 (z1a v.l path).length d2)).setCell ⟨w.heap.size+1,5,none⟩ (.slice B3 (z0y v.l path).length d3)).setCell ⟨w.heap.size+1,6,none⟩ (.int .i64 (z0d v.l sg.pos.el))).setCell ⟨w.heap.size+1,7,none⟩ (.int .i64 (z1i v.l path))).setCell ⟨w.heap.size+1,8,none⟩ (.slice none 0 0)).setCell ⟨w.heap.size+1,9,none⟩ (.slice none 0 0)).setCell ⟨w.heap.size+1,10,none⟩ (.slice none 0 0)).setCell ⟨w.heap.size+1,11,none⟩ (.slice none 0 0)).setCell ⟨w.heap.size+1,12,none⟩ (.slice none 0 0)).setCell ⟨w.heap.size+1,13,none⟩ (.slice none 0 0)):=hfr.keeps (by omega) hb9.size hb9;have ho6X:=(((ho6.now (z00 (z00 hq7 hq7.size hq8) (z00 hq7 hq7.size hq8).size hq9))).frm hfr (by decide) nZ)
  have ho7X:=((ho7.now (z00 hq8 hq8.size hq9)).frm hfr (by decide) nZ)
  refine rd1 23 rfl fun K hK=>?_
  go_simp;refine hK.out _ _ (HS5.out _ (hfr.blk (hx05.now hq9') (by decide)) (hfr.blk (hxs5.now hq9') (by decide))) (fun hHeld=>?_);clear hK K;try simp only[Act.put,lsa,lsz,lss]
  refine wdn ?_;clear hHeld hfr;obtain ⟨WX,hWX⟩:∃ W,W=((((((((((((((w9.setCell ⟨w.heap.size+1,0,none⟩ (.string (bs (sg.name++45::nj)))).setCell ⟨w.heap.size+1,1,none⟩ (.int .i64 (k:Int))).setCell ⟨w.heap.size+1,2,none⟩ (.int .i64 (j:Int))).setCell ⟨w.heap.size+1,3,none⟩ (.slice A path.length cap)).setCell ⟨w.heap.size+1,4,none⟩ (.slice B2 (z1a v.l path).length d2)).setCell ⟨w.heap.size+1,5,none⟩ (.slice B3 (z0y v.l path).length d3)).setCell ⟨w.heap.size+1,6,none⟩ (.int .i64 (z0d v.l sg.pos.el))).setCell ⟨w.heap.size+1,7,none⟩ (.int .i64 (z1i v.l path))).setCell ⟨w.heap.size+1,8,none⟩ (.slice none 0 0)).setCell ⟨w.heap.size+1,9,none⟩ (.slice none 0 0)).setCell ⟨w.heap.size+1,10,none⟩ (.slice none 0 0)).setCell ⟨w.heap.size+1,11,none⟩ (.slice none 0 0)).setCell ⟨w.heap.size+1,12,none⟩ (.slice none 0 0)).setCell ⟨w.heap.size+1,13,none⟩ (.slice none 0 0)):=⟨_,rfl⟩
  rw[←hWX] at hp hbX ho6X ho7X ⊢;clear hWX hz9 rf rl r0 r1 r2 r3 r4 r5 r6 r7 r8 r9 r10 r11 r12 r13;have ldp:=z04 hp 14 rfl;have HX:=hE (aIq hp (aIq hbX (aIq ho6X ho7X)));clear hp hbX ho6X ho7X hq6 hq6' hq7 hq7' hq8 hq8' hq9 ho6 ho7;go_wp2_with fail
  obtain ⟨hp,hbX,ho6X,ho7X⟩:=HX.out;have pl:=hp.lt;refine bodyPost_ret (v:=.agg #[.string (bs (sg.name++45::nj)),.int .i64 (k:Int),.int .i64 (j:Int),.slice A path.length cap,.slice B2 (z1a v.l path).length d2,.slice B3 (z0y v.l path).length d3,.int .i64 (z0d v.l sg.pos.el),.int .i64 (z1i v.l path),.slice none 0 0,.slice none 0 0,.slice none 0 0,.slice none 0 0,.slice none 0 0,.slice none 0 0]) (by simp[results,Tryz.results81,go_sem,ldp,pl]) rfl ?_;have hap:=HAP.out;have hwk:=HWK.out;have hk12:=j2m hnk;obtain ⟨n2,s2⟩:=z2s (T:=56) ho6X (by decide);obtain ⟨n3,s3⟩:=z2s (T:=56) ho7X (by decide);have s1:=(hw.keep fun p hp=>hbX.cell hp.1).more fun b hb=>(⟨nT hb.1 hbX.size,fun cs fr he=>hb.2 cs fr (by rw[←hbX.block b hb.1];exact he)⟩:Sep _ 56 _ b)
  have hi0:z0p 0:=by constructor <;> simp
  have hz0:∀ c:Nat,(0:Nat)≤maxLen∧0≤c:=fun c=>⟨nZ,nZ⟩
  have hnm2:(sg.name++45::nj).length≤maxLen:=by rw[qL,lCn];unfold maxLen;omega
  have hpl2:path.length≤maxLen∧path.length≤cap:=⟨by unfold maxLen;omega,hcap⟩
  have HB2:z2c v.l k path = { zR with name:=sg.name++45::nj,ent:=(k:Int),ext:=(j:Int),path:=path,pts:=z1a v.l path,secs:=z0y v.l path,app:=z0d v.l sg.pos.el,len:=z1i v.l path }:=by rw[HBR.out,if_pos HZP.out,HNJ.out]
  have hss:=hap.2.2.2;have e1:z0p (k:Int):=⟨by omega,by omega⟩
  have e2:z0p (j:Int):=⟨by omega,by omega⟩
  have e3:z0p (z0d v.l sg.pos.el):=⟨by omega,by omega⟩
  have e4:z0p (z1i v.l path):=⟨by omega,by omega⟩
  exact ⟨{ r:={ zR with name:=sg.name++45::nj,ent:=(k:Int),ext:=(j:Int),path:=path,pts:=z1a v.l path,secs:=z0y v.l path,app:=z0d v.l sg.pos.el,len:=z1i v.l path },A1:=A,A2:=B2,A3:=B3,A4:=none,A5:=none,A6:=none,A7:=none,A8:=none,A9:=none,c1:=cap,c2:=d2,c3:=d3,c4:=0,c5:=0,c6:=0,c7:=0,c8:=0,c9:=0 },rfl,HB2.symm,⟨⟨hnm2,e1,e2,e3,e4,hpl2,n2,n3,hz0 _,hz0 _,hz0 _,hz0 _,hz0 _,hz0 _⟩,s1,s2,s3,RdS.nil _ _ _ _,RdS.nil _ _ _ _,RdS.nil _ _ _ _,RdS.nil _ _ _ _,RdS.nil _ _ _ _,RdS.nil _ _ _ _⟩,hbX⟩
 ·have HZP:=hE hzp;have hel:endW.length=3:=rfl;have hzn:¬0≤z:=hzp;have hzn2:z < 0:=by omega
  have hnb:¬9223372036854775807 < sg.name.length+1+3:=by have:=j2m hnk;omega
  go_wp2_with fail;refine j8a 24 HS5 hx05.drew hxs5.drew fun hHeld=>?_
  refine tkM 18 [0,1,2,3,4,5,6,7,8,9,11,12,14,15,16,17,19,20] ?_;refine rd1 10 rfl fun K hK=>?_
  go_simp;go_at_call 48
  refine (HST.out _ bQ.drew).mono ?_;rintro e w6 ⟨B2,d2,rfl,ho6,hq6⟩;have hq6':Below w5.heap.size w5 w6:=bQ.drew.trans hq6;go_wp2_with fail
  refine hK.out _ _ (HS5.out _ (hx05.now hq6') (hxs5.now hq6')) (fun hHeld=>?_);clear hK K;try simp only[Act.put,lsa,lsz,lss]
  refine rd1 13 rfl fun K hK=>?_
  go_simp;go_at_call 49
  refine (HSE.out _ hq6').mono ?_;rintro e w7 ⟨B3,d3,rfl,ho7,hq7⟩;have hq7':Below w5.heap.size w5 w7:=z00 hq6' hq6'.size hq7;go_wp2_with fail
  refine hK.out _ _ (HS5.out _ (hx05.now hq7') (hxs5.now hq7')) (fun hHeld=>?_);clear hK K;try simp only[Act.put,lsa,lsz,lss]
  refine rd1 18 rfl fun K hK=>?_
  go_simp;go_at_call 18
  refine (HSC.out _ hq7').mono ?_;rintro e w8 ⟨rfl,hq8⟩;have hq8':Below w5.heap.size w5 w8:=z00 hq7' hq7'.size hq8;go_wp2_with fail
  refine hK.out _ _ (HS5.out _ (hx05.now hq8') (hxs5.now hq8')) (fun hHeld=>?_);clear hK K;try simp only[Act.put,lsa,lsz,lss]
  refine rd1 21 rfl fun K hK=>?_
  go_simp;go_at_call 93
  refine (HWL.out _ hq8').mono ?_;rintro e w9 ⟨rfl,hq9⟩;have hq9':Below w5.heap.size w5 w9:=z00 hq8' hq8'.size hq9;go_wp2_with fail
  refine hK.out _ _ (HS5.out _ (hx05.now hq9') (hxs5.now hq9')) (fun hHeld=>?_);clear hK K;try simp only[Act.put,lsa,lsz,lss]
  refine tkM 1 [22] ?_;have hz9:=hx15.now hq9';have r0:=hz9.cell 0;have r1:=hz9.cell 1;have r2:=hz9.cell 2;have r3:=hz9.cell 3;have r4:=hz9.cell 4;have r5:=hz9.cell 5;have r6:=hz9.cell 6;have r7:=hz9.cell 7;have r8:=hz9.cell 8;have r9:=hz9.cell 9;have r10:=hz9.cell 10;have r11:=hz9.cell 11;have r12:=hz9.cell 12;have r13:=hz9.cell 13;have rf:=hz9.free;have rl:=hz9.lt;simp only[gqA,gqZ,gqS] at r0 r1 r2 r3 r4 r5 r6 r7 r8 r9 r10 r11 r12 r13;have hfr:Frm (w.heap.size+1) 56 w9 ((((((((((((((w9.setCell ⟨w.heap.size+1,0,none⟩ (.string (bs (sg.name++45::endW)))).setCell ⟨w.heap.size+1,1,none⟩ (.int .i64 (k:Int))).setCell ⟨w.heap.size+1,2,none⟩ (.int .i64 z)).setCell ⟨w.heap.size+1,3,none⟩ (.slice A path.length cap)).setCell ⟨w.heap.size+1,4,none⟩ (.slice B2 (z1a v.l path).length d2)).setCell ⟨w.heap.size+1,5,none⟩ (.slice B3 (z0y v.l path).length d3)).setCell ⟨w.heap.size+1,6,none⟩ (.int .i64 (z0d v.l sg.pos.el))).setCell ⟨w.heap.size+1,7,none⟩ (.int .i64 (z1i v.l path))).setCell ⟨w.heap.size+1,8,none⟩ (.slice none 0 0)).setCell ⟨w.heap.size+1,9,none⟩ (.slice none 0 0)).setCell ⟨w.heap.size+1,10,none⟩ (.slice none 0 0)).setCell ⟨w.heap.size+1,11,none⟩ (.slice none 0 0)).setCell ⟨w.heap.size+1,12,none⟩ (.slice none 0 0)).setCell ⟨w.heap.size+1,13,none⟩ (.slice none 0 0)):=z0l (w:=w9) [.string (bs (sg.name++45::endW)),.int .i64 (k:Int),.int .i64 z,.slice A path.length cap,.slice B2 (z1a v.l path).length d2,.slice B3 (z0y v.l path).length d3,.int .i64 (z0d v.l sg.pos.el),.int .i64 (z1i v.l path),.slice none 0 0,.slice none 0 0,.slice none 0 0,.slice none 0 0,.slice none 0 0,.slice none 0 0] 0 hz9 nL;have hp:Blk ((((((((((((((w9.setCell ⟨w.heap.size+1,0,none⟩ (.string (bs (sg.name++45::endW)))).setCell ⟨w.heap.size+1,1,none⟩ (.int .i64 (k:Int))).setCell ⟨w.heap.size+1,2,none⟩ (.int .i64 z)).setCell ⟨w.heap.size+1,3,none⟩ (.slice A path.length cap)).setCell ⟨w.heap.size+1,4,none⟩ (.slice B2 (z1a v.l path).length d2)).setCell ⟨w.heap.size+1,5,none⟩ (.slice B3 (z0y v.l path).length d3)).setCell ⟨w.heap.size+1,6,none⟩ (.int .i64 (z0d v.l sg.pos.el))).setCell ⟨w.heap.size+1,7,none⟩ (.int .i64 (z1i v.l path))).setCell ⟨w.heap.size+1,8,none⟩ (.slice none 0 0)).setCell ⟨w.heap.size+1,9,none⟩ (.slice none 0 0)).setCell ⟨w.heap.size+1,10,none⟩ (.slice none 0 0)).setCell ⟨w.heap.size+1,11,none⟩ (.slice none 0 0)).setCell ⟨w.heap.size+1,12,none⟩ (.slice none 0 0)).setCell ⟨w.heap.size+1,13,none⟩ (.slice none 0 0)) (w.heap.size+1) 56 #[.string (bs (sg.name++45::endW)),.int .i64 (k:Int),.int .i64 z,.slice A path.length cap,.slice B2 (z1a v.l path).length d2,.slice B3 (z0y v.l path).length d3,.int .i64 (z0d v.l sg.pos.el),.int .i64 (z1i v.l path),.slice none 0 0,.slice none 0 0,.slice none 0 0,.slice none 0 0,.slice none 0 0,.slice none 0 0]:=by
   obtain ⟨cur',h1,h2⟩:=z4d [.string (bs (sg.name++45::endW)),.int .i64 (k:Int),.int .i64 z,.slice A path.length cap,.slice B2 (z1a v.l path).length d2,.slice B3 (z0y v.l path).length d3,.int .i64 (z0d v.l sg.pos.el),.int .i64 (z1i v.l path),.slice none 0 0,.slice none 0 0,.slice none 0 0,.slice none 0 0,.slice none 0 0,.slice none 0 0] 0 hz9 (by simp);have h3:cur' = #[.string (bs (sg.name++45::endW)),.int .i64 (k:Int),.int .i64 z,.slice A path.length cap,.slice B2 (z1a v.l path).length d2,.slice B3 (z0y v.l path).length d3,.int .i64 (z0d v.l sg.pos.el),.int .i64 (z1i v.l path),.slice none 0 0,.slice none 0 0,.slice none 0 0,.slice none 0 0,.slice none 0 0,.slice none 0 0]:=Array.toList_inj.1 h2;rw[h3] at h1;exact h1
  have hb9:=z00 hb5 hb5.size hq9';have hbX:Below w.heap.size w ((((((((((((((w9.setCell ⟨w.heap.size+1,0,none⟩ (.string (bs (sg.name++45::endW)))).setCell ⟨w.heap.size+1,1,none⟩ (.int .i64 (k:Int))).setCell ⟨w.heap.size+1,2,none⟩ (.int .i64 z)).setCell ⟨w.heap.size+1,3,none⟩ (.slice A path.length cap)).setCell ⟨w.heap.size+1,4,none⟩ (.slice B2 (z1a v.l path).length d2)).setCell ⟨w.heap.size+1,5,none⟩ (.slice B3 (z0y v.l path).length d3)).setCell ⟨w.heap.size+1,6,none⟩ (.int .i64 (z0d v.l sg.pos.el))).setCell ⟨w.heap.size+1,7,none⟩ (.int .i64 (z1i v.l path))).setCell ⟨w.heap.size+1,8,none⟩ (.slice none 0 0)).setCell ⟨w.heap.size+1,9,none⟩ (.slice none 0 0)).setCell ⟨w.heap.size+1,10,none⟩ (.slice none 0 0)).setCell ⟨w.heap.size+1,11,none⟩ (.slice none 0 0)).setCell ⟨w.heap.size+1,12,none⟩ (.slice none 0 0)).setCell ⟨w.heap.size+1,13,none⟩ (.slice none 0 0)):=hfr.keeps (by omega) hb9.size hb9;have ho6X:=(((ho6.now (z00 (z00 hq7 hq7.size hq8) (z00 hq7 hq7.size hq8).size hq9))).frm hfr (by decide) nZ)
  have ho7X:=((ho7.now (z00 hq8 hq8.size hq9)).frm hfr (by decide) nZ)
  refine rd1 23 rfl fun K hK=>?_
  go_simp;refine hK.out _ _ (HS5.out _ (hfr.blk (hx05.now hq9') (by decide)) (hfr.blk (hxs5.now hq9') (by decide))) (fun hHeld=>?_);clear hK K;try simp only[Act.put,lsa,lsz,lss]
  refine wdn ?_;clear hHeld hfr;obtain ⟨WX,hWX⟩:∃ W,W=((((((((((((((w9.setCell ⟨w.heap.size+1,0,none⟩ (.string (bs (sg.name++45::endW)))).setCell ⟨w.heap.size+1,1,none⟩ (.int .i64 (k:Int))).setCell ⟨w.heap.size+1,2,none⟩ (.int .i64 z)).setCell ⟨w.heap.size+1,3,none⟩ (.slice A path.length cap)).setCell ⟨w.heap.size+1,4,none⟩ (.slice B2 (z1a v.l path).length d2)).setCell ⟨w.heap.size+1,5,none⟩ (.slice B3 (z0y v.l path).length d3)).setCell ⟨w.heap.size+1,6,none⟩ (.int .i64 (z0d v.l sg.pos.el))).setCell ⟨w.heap.size+1,7,none⟩ (.int .i64 (z1i v.l path))).setCell ⟨w.heap.size+1,8,none⟩ (.slice none 0 0)).setCell ⟨w.heap.size+1,9,none⟩ (.slice none 0 0)).setCell ⟨w.heap.size+1,10,none⟩ (.slice none 0 0)).setCell ⟨w.heap.size+1,11,none⟩ (.slice none 0 0)).setCell ⟨w.heap.size+1,12,none⟩ (.slice none 0 0)).setCell ⟨w.heap.size+1,13,none⟩ (.slice none 0 0)):=⟨_,rfl⟩
  rw[←hWX] at hp hbX ho6X ho7X ⊢;clear hWX hz9 rf rl r0 r1 r2 r3 r4 r5 r6 r7 r8 r9 r10 r11 r12 r13;have ldp:=z04 hp 14 rfl;have HX:=hE (aIq hp (aIq hbX (aIq ho6X ho7X)));clear hp hbX ho6X ho7X hq6 hq6' hq7 hq7' hq8 hq8' hq9 ho6 ho7;go_wp2_with fail
  obtain ⟨hp,hbX,ho6X,ho7X⟩:=HX.out;have pl:=hp.lt;refine bodyPost_ret (v:=.agg #[.string (bs (sg.name++45::endW)),.int .i64 (k:Int),.int .i64 z,.slice A path.length cap,.slice B2 (z1a v.l path).length d2,.slice B3 (z0y v.l path).length d3,.int .i64 (z0d v.l sg.pos.el),.int .i64 (z1i v.l path),.slice none 0 0,.slice none 0 0,.slice none 0 0,.slice none 0 0,.slice none 0 0,.slice none 0 0]) (by simp[results,Tryz.results81,go_sem,ldp,pl]) rfl ?_;have hap:=HAP.out;have hwk:=HWK.out;have hk12:=j2m hnk;obtain ⟨n2,s2⟩:=z2s (T:=56) ho6X (by decide);obtain ⟨n3,s3⟩:=z2s (T:=56) ho7X (by decide);have s1:=(hw.keep fun p hp=>hbX.cell hp.1).more fun b hb=>(⟨nT hb.1 hbX.size,fun cs fr he=>hb.2 cs fr (by rw[←hbX.block b hb.1];exact he)⟩:Sep _ 56 _ b)
  have hi0:z0p 0:=by constructor <;> simp
  have hz0:∀ c:Nat,(0:Nat)≤maxLen∧0≤c:=fun c=>⟨nZ,nZ⟩
  have hnm2:(sg.name++45::endW).length≤maxLen:=by rw[qL,lCn];unfold maxLen;omega
  have hpl2:path.length≤maxLen∧path.length≤cap:=⟨by unfold maxLen;omega,hcap⟩
  have HB2:z2c v.l k path = { zR with name:=sg.name++45::endW,ent:=(k:Int),ext:=z,path:=path,pts:=z1a v.l path,secs:=z0y v.l path,app:=z0d v.l sg.pos.el,len:=z1i v.l path }:=by rw[HBR.out,if_neg (by have:=HZP.out;omega)]
  have hss:=hap.2.2.2;have e1:z0p (k:Int):=⟨by omega,by omega⟩
  have e2:z0p z:=⟨by omega,by omega⟩
  have e3:z0p (z0d v.l sg.pos.el):=⟨by omega,by omega⟩
  have e4:z0p (z1i v.l path):=⟨by omega,by omega⟩
  exact ⟨{ r:={ zR with name:=sg.name++45::endW,ent:=(k:Int),ext:=z,path:=path,pts:=z1a v.l path,secs:=z0y v.l path,app:=z0d v.l sg.pos.el,len:=z1i v.l path },A1:=A,A2:=B2,A3:=B3,A4:=none,A5:=none,A6:=none,A7:=none,A8:=none,A9:=none,c1:=cap,c2:=d2,c3:=d3,c4:=0,c5:=0,c6:=0,c7:=0,c8:=0,c9:=0 },rfl,HB2.symm,⟨⟨hnm2,e1,e2,e3,e4,hpl2,n2,n3,hz0 _,hz0 _,hz0 _,hz0 _,hz0 _,hz0 _⟩,s1,s2,s3,RdS.nil _ _ _ _,RdS.nil _ _ _ _,RdS.nil _ _ _ _,RdS.nil _ _ _ _,RdS.nil _ _ _ _,RdS.nil _ _ _ _⟩,hbX⟩
end Go.Proofs.YtpenlfedkacglaaGreatDoor
namespace Go.Proofs.YtpenlfedkacglaaGreatDoor
open Go.RowKit
open Go.Maps (Keyed IsMap)
attribute [local go_sem] z05 z07 z01 z02
attribute [-go_sem] run_equalIn_agg
theorem j6z {t:Tab} {b:Bool} (v:z1w) (r:z2v) (h:z7r v.t r.r=b) (w:World) (hr:TvR w v) (hrr:RvR w (Lt w) r) (hl:y5i v.t=true) (h3:r.r.secs.length≤40000) (h6:r.r.osecs.length≤40000):Calls Tryz.prog 54 #[tvA v,.agg (z0e r)] w fun e w'=>e=.returned (.bool b)∧Below w.heap.size w w':=by
 unfold y5i at hl;simp only[uT,z1f] at hl;exact h▸y1q v r w hr hrr hl.2.2.1.1 hl.2.2.1.2 hl.2.2.2.1 hl.2.2.2.2 h3 h6
theorem j4s {b:Bool} (v:z1w) (l:List Stg) (h:y0z v.t l=b) (A:Option Addr) (cap:Nat) (w:World) (hr:TvR w v) (hl:RdS z2x w (Lt w) A l) (hn:l.length≤maxLen):Calls Tryz.prog 55 #[tvA v,.slice A l.length cap] w fun e w'=>e=.returned (.bool b)∧Below w.heap.size w w':=h▸z8k v l A cap w hr hl hn
theorem j4n {c:Bool} (a b:List Stg) (h:y1f a b=c) (A B:Option Addr) (ca cb:Nat) (w:World) (ha:RdS z2x w (Lt w) A a) (hb:RdS z2x w (Lt w) B b) (la:a.length≤maxLen) (lb:b.length≤maxLen):Calls Tryz.prog 56 #[.slice A a.length ca,.slice B b.length cb] w fun e w'=>e=.returned (.bool c)∧Below w.heap.size w w':=h▸y4r a b A B ca cb w ha hb la lb
theorem j9p {b:Bool} (v:z1w) (h:y4d v.t=b) (w:World) (hr:TvR w v) (hs:v.t.nsec≤1000):Calls Tryz.prog 53 #[tvA v] w fun e w'=>e=.returned (.bool b)∧Below w.heap.size w w':=h▸y0k v w hr hs
theorem j3o {t:Tab} {r:Rou} (h:y0z t r.pts=false):setB t r=false:=by unfold setB;rw[h];rfl
theorem j3p {t:Tab} {r:Rou} (h:y0z t r.opts=false):setB t r=false:=by unfold setB;rw[h];simp
theorem j3q {t:Tab} {r:Rou} (h:y0z t r.flk=false):setB t r=false:=by unfold setB;rw[h];simp
theorem j3r {t:Tab} {r:Rou} (h1:y0z t r.pts=true) (h2:y0z t r.opts=true) (h3:y0z t r.flk=true):setB t r=true:=by unfold setB;rw[h1,h2,h3];rfl
theorem j4v {r:Rou} (h:y1f r.pts r.opts=false):agB r=false:=by unfold agB;rw[h];rfl
theorem j4w {r:Rou} (h:y1f r.pts r.flk=false):agB r=false:=by unfold agB;rw[h];simp
theorem j4x {r:Rou} (h:y1f r.opts r.flk=false):agB r=false:=by unfold agB;rw[h];simp
theorem j4y {r:Rou} (h1:y1f r.pts r.opts=true) (h2:y1f r.pts r.flk=true) (h3:y1f r.opts r.flk=true):agB r=true:=by unfold agB;rw[h1,h2,h3];rfl
theorem y8w {t:Tab} (h:48 < t.rts.length∨32 < t.pts.length∨inB t.nsec 0 24=false∨inB t.nsig 0 20=false):y5i t=false:=by
 unfold y5i;rcases h with h | h | h | h
 ·rw[dFf (by omega)];rfl
 ·rw[dFf (show ¬t.pts.length≤32 by omega)];simp
 ·rw[h];simp
 ·rw[h];simp
theorem j2f {t:Tab} (h:¬48 < t.rts.length) (h2:¬32 < t.pts.length) (h3:inB t.nsec 0 24=true) (h4:inB t.nsig 0 20=true):y5i t=true:=by
 unfold y5i;rw[h3,h4,dTt (by omega),dTt (by omega)];rfl
theorem j6l {l:List Rou} {k:Nat} (s:List UInt8):(((l.take k).map Rou.name).map Lit.string).any (fun x=>x.sameKey (.string s))=decide (s∈(l.map Rou.name).take k):=by rw[x2j,List.map_take]
theorem j5p {l:List Rou} {k:Nat} (h:k < l.length) (hx:l[k].name∈(l.map Rou.name).take k):¬(l.map Rou.name).Nodup:=z5u (l:=l.map Rou.name) (k:=k) (by simpa using h) (by simpa using hx)
theorem j6n {l:List Rou} {k:Nat} (h:k < l.length) (hn:((l.map Rou.name).take k).Nodup) (hx:l[k].name∉(l.map Rou.name).take k):((l.map Rou.name).take (k+1)).Nodup:=z3z (l:=l.map Rou.name) (by simpa using h) hn (by simpa using hx)
theorem Bx.grow {w0 w w':World} {v:z1w} (h:Bx w0 w v) (hr:TvR w0 v) {g:Nat} (hg:w.grownBy w' (some g)) (h1:w0.heap.size≤g) (h2:g≠w0.heap.size):Bx w0 w' v:=
 have hb:=h.bel.grown hg h.bel.size (fun k hk=>by simp only[qE] at hk;omega)
 ⟨hb,(hg.block _ h.lt (by intro he;simp only[qE] at he;omega)).trans h.blk,hr.now hb⟩
def y4q (t:Tab):Prop:=∀ r∈t.rts,r.secs.length≤40000∧r.osecs.length≤40000
theorem z8m (v:z1w) (w:World) (hr:TvR w v) (hsm:y4q v.t):Calls Tryz.prog 21 #[tvA v] w fun e w'=>e=.returned (.int .i64 (z4y v.t))∧Below w.heap.size w w':=by
 have hb0:=Bx.new hr;have x0:=hb0.x0;have x1:=hb0.x1;have x2:=hb0.x2;have x3:=hb0.x3;have x4:=hb0.x4;have hB:=hb0.bel;have HSM:=hE hsm;clear hsm;unfold tvA;by_cases d1:48 < v.t.rts.length
 ·have HX:=hE (z9c (y8w (Or.inl d1)));have d1i:(48:Int) < (v.t.rts.length:Int):=by omega
  clear d1;go_enter Tryz.func21,Tryz.ntmps21
  go_wp2_with fail;go_ret
  exact ⟨z0i HX.out.symm,hB⟩
 by_cases d2:32 < v.t.pts.length
 ·have HX:=hE (z9c (y8w (Or.inr (Or.inl d2))));have d1i:¬(48:Int) < (v.t.rts.length:Int):=by omega
  have d2i:(32:Int) < (v.t.pts.length:Int):=by omega
  clear d1 d2;go_enter Tryz.func21,Tryz.ntmps21
  go_wp2_with fail;go_ret
  exact ⟨z0i HX.out.symm,hB⟩
 have d1i:¬(48:Int) < (v.t.rts.length:Int):=by omega
 have d2i:¬(32:Int) < (v.t.pts.length:Int):=by omega
 cases d3:inB v.t.nsec 0 24 with
 | false=>
  have HX:=hE (z9c (y8w (Or.inr (Or.inr (Or.inl d3)))));have HC3:=hE fun W=>z1g (c:=25) d3 W (by omega)
  clear d1 d2 d3;go_enter Tryz.func21,Tryz.ntmps21
  go_wp2_with fail;refine (HC3.out _).mono ?_;rintro e wq ⟨rfl,rfl⟩;go_wp2_with fail
  go_ret
  exact ⟨z0i HX.out.symm,hB⟩
 | true=>
 cases d4:inB v.t.nsig 0 20 with
 | false=>
  have HX:=hE (z9c (y8w (Or.inr (Or.inr (Or.inr d4)))));have HC3:=hE fun W=>z1g (c:=25) d3 W (by omega)
  have HC4:=hE fun W=>z1g (c:=21) d4 W (by omega)
  clear d1 d2 d3 d4;go_enter Tryz.func21,Tryz.ntmps21
  go_wp2_with fail;refine (HC3.out _).mono ?_;rintro e wq ⟨rfl,rfl⟩;go_wp2_with fail
  refine (HC4.out _).mono ?_;rintro e wq ⟨rfl,rfl⟩;go_wp2_with fail
  go_ret
  exact ⟨z0i HX.out.symm,hB⟩
 | true=>
 have HLIM:=hE (j2f d1 d2 d3 d4);have hrl:v.t.rts.length≤48:=by omega
 have hn24:=(z1f.1 d3).2;have HC3:=hE fun W=>z1g (c:=25) d3 W (by omega)
 have HC4:=hE fun W=>z1g (c:=21) d4 W (by omega)
 clear d1 d2 d3 d4;go_enter Tryz.func21,Tryz.ntmps21
 go_wp2_with fail;refine (HC3.out _).mono ?_;rintro e wq ⟨rfl,rfl⟩;go_wp2_with fail
 refine (HC4.out _).mono ?_;rintro e wq ⟨rfl,rfl⟩;go_wp2_with fail
 cases e1:y4d v.t with
 | false=>
  have HX:=hE (x6v HLIM.out e1);refine (j9p v e1 _ hb0.rd (by omega)).mono ?_;rintro e w1 ⟨rfl,hq⟩;have hb1:=(hb0.now hq).bel;clear x0 x1 x2 x3 x4 hb0 e1;go_wp2_with fail
  go_ret
  exact ⟨z0i HX.out.symm,hb1⟩
 | true=>
 have HPT:=hE e1;refine (j9p v e1 _ hb0.rd (by omega)).mono ?_;rintro e w1 ⟨rfl,hq⟩;have hb1:=hb0.now hq;clear x0 x1 x2 x3 x4 hb0 e1 hq hB d1i d2i HC3 HC4;have x0:=hb1.x0;go_wp2_with fail
 clear x0;go_loopw [40] (fun n wr=>∃ k:Nat,k≤v.t.rts.length∧n=.int .i64 k∧Bx w wr v∧Hid ((v.t.rts.take k).all (z7r v.t)=true)) (fun n _=>v.t.rts.length - (intOf n).toNat)
 case atStart=>exact ⟨0,nZ,rfl,hb1,hE (by simp)⟩
 case round=>
  clear hb1;obtain ⟨k,hk,rfl,hb,HK⟩:=hrel;by_cases hlt:k < v.t.rts.length
  ·have hki:(k:Int) < (v.t.rts.length:Int):=by omega
   obtain ⟨b,off,r,hA,lb,hre,hrv,y0,y1,y2,y3,y4,y5,y6,y7,y8,y9,y10,y11,y12,y13⟩:=hb.rd.r1.elR hlt;have hrl3:=HSM.out _ (uE hlt);rw[←hre] at hrl3;have hre':v.t.rts[k]=r.r:=hre.symm;have hb2:=hb.alloc (.cells (z0e r) 56);have hRB:=RBx.new hrv;have x0:=hb.x0;rw[hA] at x0
   cases hc:z7r v.t r.r with
   | false=>
    have HX:=hE (x6w HLIM.out HPT.out (z4p hlt (by rw[hre'];exact hc)));have HC:=hE fun W hw hw2=>j6z (t:=v.t) v r hc W hw hw2 HLIM.out hrl3.1 hrl3.2
    clear hc HK hre hre' hrl3;have x0:=hb2.x0;have x1:=hb2.x1;have x2:=hb2.x2;have x3:=hb2.x3;have x4:=hb2.x4;rw[hA] at x0 ⊢;have HB2:=hE hb2;unfold tvA at HC;(try unfold z0t at HC);rw[hA] at HC;go_wp2_with fail
    refine (HC.out _ HB2.out.rd hRB.rd).mono ?_;rintro e w3 ⟨rfl,hq⟩;have hb3:=(HB2.out.now hq).bel;clear hb hb2 hRB;go_wp2_with fail
    go_ret
    exact ⟨z0i HX.out.symm,hb3⟩
   | true=>
    have HK2:=hE (z4a hlt HK.out (by rw[hre'];exact hc));have HC:=hE fun W hw hw2=>j6z (t:=v.t) v r hc W hw hw2 HLIM.out hrl3.1 hrl3.2
    clear hc HK hre hre' hrl3;have x0:=hb2.x0;have x1:=hb2.x1;have x2:=hb2.x2;have x3:=hb2.x3;have x4:=hb2.x4;rw[hA] at x0 ⊢;have HB2:=hE hb2;unfold tvA at HC;(try unfold z0t at HC);rw[hA] at HC;go_wp2_with fail
    refine (HC.out _ HB2.out.rd hRB.rd).mono ?_;rintro e w3 ⟨rfl,hq⟩;have hb3:=HB2.out.now hq;clear hb hb2 hRB x0 x1 x2 x3 x4;go_wp2_with fail
    go_roundw
    case rel=>exact ⟨k+1,by omega,by go_num,hb3,HK2⟩
    case measure=>simp[intOf];omega
  ·have HR1:=hE (z7d hlt HK.out);clear HK;have x0:=hb.x0;go_wp2_with fail
   clear x0;go_loopw [52] (fun n wr=>∃ k:Nat,k≤v.t.rts.length∧n=.int .i64 k∧Bx w wr v∧Hid ((v.t.rts.take k).all (setB v.t)=true)) (fun n _=>v.t.rts.length - (intOf n).toNat)
   case atStart=>exact ⟨0,nZ,rfl,hb,hE (by simp)⟩
   case round=>
    clear hb;obtain ⟨k,hk,rfl,hb,HK⟩:=hrel;by_cases hlt:k < v.t.rts.length
    ·have hki:(k:Int) < (v.t.rts.length:Int):=by omega
     obtain ⟨b,off,r,hA,lb,hre,hrv,y0,y1,y2,y3,y4,y5,y6,y7,y8,y9,y10,y11,y12,y13⟩:=hb.rd.r1.elR hlt;have hrl3:=HSM.out _ (uE hlt);rw[←hre] at hrl3;have hre':v.t.rts[k]=r.r:=hre.symm;have hb2:=hb.alloc (.cells (z0e r) 56);have hRB:=RBx.new hrv;have x0:=hb.x0;rw[hA] at x0;have HRE:=hE hre';have HKK:=hE HK.out;clear hre hre' hrl3 HK
     cases s0:y0z v.t r.r.pts with
     | false=>
      have HX:=hE (y3h HLIM.out HPT.out (z4p hlt (by rw[HRE.out];exact j3o s0)));have HC:=hE (j4s v r.r.pts s0 r.A2 r.c2 _ hb2.rd hRB.rd.r2 hRB.rd.o.n2.1);unfold tvA at HC;clear s0;have x0:=hb2.x0;have x1:=hb2.x1;have x2:=hb2.x2;have x3:=hb2.x3;have x4:=hb2.x4;have z4:=hRB.x4;have HBB:=hE hb2;have HRR:=hE hRB;(try unfold z0t at x0);(try unfold z0t at HC);(try unfold z0t at ⊢);rw[hA] at x0 HC ⊢;clear hb2 hRB;go_wp2_with fail
      refine HC.out.mono ?_;rintro e w3 ⟨rfl,hq⟩;have hb3:=HBB.out.now hq;have hR3:=HRR.out.now hq;clear HC HBB HRR hq z4 x0 x1 x2 x3 x4;go_wp2_with fail
      go_ret
      exact ⟨z0i HX.out.symm,hb3.bel⟩
     | true=>
      have S0:=hE s0;have HC:=hE (j4s v r.r.pts s0 r.A2 r.c2 _ hb2.rd hRB.rd.r2 hRB.rd.o.n2.1);unfold tvA at HC;clear s0;have x0:=hb2.x0;have x1:=hb2.x1;have x2:=hb2.x2;have x3:=hb2.x3;have x4:=hb2.x4;have z4:=hRB.x4;have HBB:=hE hb2;have HRR:=hE hRB;(try unfold z0t at x0);(try unfold z0t at HC);(try unfold z0t at ⊢);rw[hA] at x0 HC ⊢;clear hb2 hRB;go_wp2_with fail
      refine HC.out.mono ?_;rintro e w3 ⟨rfl,hq⟩;have hb3:=HBB.out.now hq;have hR3:=HRR.out.now hq;clear HC HBB HRR hq z4 x0 x1 x2 x3 x4
      cases s1:y0z v.t r.r.opts with
      | false=>
       have HX:=hE (y3h HLIM.out HPT.out (z4p hlt (by rw[HRE.out];exact j3p s1)));have HC:=hE (j4s v r.r.opts s1 r.A5 r.c5 w3 hb3.rd hR3.rd.r5 hR3.rd.o.n5.1);unfold tvA at HC;clear s1;have x0:=hb3.x0;have x1:=hb3.x1;have x2:=hb3.x2;have x3:=hb3.x3;have x4:=hb3.x4;have z9:=hR3.x9;have HBB:=hE hb3;have HRR:=hE hR3;(try unfold z0t at x0);(try unfold z0t at HC);rw[hA] at x0 HC;clear hb3 hR3;go_wp2_with fail
       refine HC.out.mono ?_;rintro e w4 ⟨rfl,hq⟩;have hb4:=HBB.out.now hq;have hR4:=HRR.out.now hq;clear HC HBB HRR hq z9 x0 x1 x2 x3 x4;go_wp2_with fail
       go_ret
       exact ⟨z0i HX.out.symm,hb4.bel⟩
      | true=>
       have S1:=hE s1;have HC:=hE (j4s v r.r.opts s1 r.A5 r.c5 w3 hb3.rd hR3.rd.r5 hR3.rd.o.n5.1);unfold tvA at HC;clear s1;have x0:=hb3.x0;have x1:=hb3.x1;have x2:=hb3.x2;have x3:=hb3.x3;have x4:=hb3.x4;have z9:=hR3.x9;have HBB:=hE hb3;have HRR:=hE hR3;(try unfold z0t at x0);(try unfold z0t at HC);rw[hA] at x0 HC;clear hb3 hR3;go_wp2_with fail
       refine HC.out.mono ?_;rintro e w4 ⟨rfl,hq⟩;have hb4:=HBB.out.now hq;have hR4:=HRR.out.now hq;clear HC HBB HRR hq z9 x0 x1 x2 x3 x4
       cases s2:y0z v.t r.r.flk with
       | false=>
        have HX:=hE (y3h HLIM.out HPT.out (z4p hlt (by rw[HRE.out];exact j3q s2)));have HC:=hE (j4s v r.r.flk s2 r.A7 r.c7 w4 hb4.rd hR4.rd.r7 hR4.rd.o.n7.1);unfold tvA at HC;clear s2;have x0:=hb4.x0;have x1:=hb4.x1;have x2:=hb4.x2;have x3:=hb4.x3;have x4:=hb4.x4;have z11:=hR4.x11;have HBB:=hE hb4;have HRR:=hE hR4;(try unfold z0t at x0);(try unfold z0t at HC);rw[hA] at x0 HC;clear hb4 hR4;go_wp2_with fail
        refine HC.out.mono ?_;rintro e w5 ⟨rfl,hq⟩;have hb5:=HBB.out.now hq;have hR5:=HRR.out.now hq;clear HC HBB HRR hq z11 x0 x1 x2 x3 x4;go_wp2_with fail
        go_ret
        exact ⟨z0i HX.out.symm,hb5.bel⟩
       | true=>
        have HK2:=hE (z4a hlt HKK.out (by rw[HRE.out];exact j3r S0.out S1.out s2));have HC:=hE (j4s v r.r.flk s2 r.A7 r.c7 w4 hb4.rd hR4.rd.r7 hR4.rd.o.n7.1);unfold tvA at HC;clear s2;have x0:=hb4.x0;have x1:=hb4.x1;have x2:=hb4.x2;have x3:=hb4.x3;have x4:=hb4.x4;have z11:=hR4.x11;have HBB:=hE hb4;have HRR:=hE hR4;(try unfold z0t at x0);(try unfold z0t at HC);rw[hA] at x0 HC;clear hb4 hR4;go_wp2_with fail
        refine HC.out.mono ?_;rintro e w5 ⟨rfl,hq⟩;have hb5:=HBB.out.now hq;have hR5:=HRR.out.now hq;clear HC HBB HRR hq z11 x0 x1 x2 x3 x4;go_wp2_with fail
        go_roundw
        case rel=>exact ⟨k+1,by omega,by go_num,hb5,HK2⟩
        case measure=>simp[intOf];omega
    ·have HR2:=hE (z7d hlt HK.out);clear HK;have x0:=hb.x0;go_wp2_with fail
     clear x0;go_loopw [79] (fun n wr=>∃ k:Nat,k≤v.t.rts.length∧n=.int .i64 k∧Bx w wr v∧Hid ((v.t.rts.take k).all agB=true)) (fun n _=>v.t.rts.length - (intOf n).toNat)
     case atStart=>exact ⟨0,nZ,rfl,hb,hE (by simp)⟩
     case round=>
      clear hb;obtain ⟨k,hk,rfl,hb,HK⟩:=hrel;by_cases hlt:k < v.t.rts.length
      ·have hki:(k:Int) < (v.t.rts.length:Int):=by omega
       obtain ⟨b,off,r,hA,lb,hre,hrv,y0,y1,y2,y3,y4,y5,y6,y7,y8,y9,y10,y11,y12,y13⟩:=hb.rd.r1.elR hlt;have hrl3:=HSM.out _ (uE hlt);rw[←hre] at hrl3;have hre':v.t.rts[k]=r.r:=hre.symm;have hb2:=hb.alloc (.cells (z0e r) 56);have hRB:=RBx.new hrv;have x0:=hb.x0;rw[hA] at x0;have HRE:=hE hre';have HKK:=hE HK.out;clear hre hre' hrl3 HK
       cases s0:y1f r.r.pts r.r.opts with
       | false=>
        have HX:=hE (y3g HLIM.out HPT.out HR1.out HR2.out (z4p hlt (by rw[HRE.out];exact j4v s0)));have HC:=hE (j4n r.r.pts r.r.opts s0 r.A2 r.A5 r.c2 r.c5 _ hRB.rd.r2 hRB.rd.r5 hRB.rd.o.n2.1 hRB.rd.o.n5.1);clear s0;have z4:=hRB.x4;have z9:=hRB.x9;have HBB:=hE hb2;have HRR:=hE hRB;rw[hA];clear hb2 hRB;go_wp2_with fail
        refine HC.out.mono ?_;rintro e w3 ⟨rfl,hq⟩;have hb3:=HBB.out.now hq;have hR3:=HRR.out.now hq;clear HC HBB HRR hq z4 z9 x0;go_wp2_with fail
        go_ret
        exact ⟨z0i HX.out.symm,hb3.bel⟩
       | true=>
        have S0:=hE s0;have HC:=hE (j4n r.r.pts r.r.opts s0 r.A2 r.A5 r.c2 r.c5 _ hRB.rd.r2 hRB.rd.r5 hRB.rd.o.n2.1 hRB.rd.o.n5.1);clear s0;have z4:=hRB.x4;have z9:=hRB.x9;have HBB:=hE hb2;have HRR:=hE hRB;rw[hA];clear hb2 hRB;go_wp2_with fail
        refine HC.out.mono ?_;rintro e w3 ⟨rfl,hq⟩;have hb3:=HBB.out.now hq;have hR3:=HRR.out.now hq;clear HC HBB HRR hq z4 z9 x0
        cases s1:y1f r.r.pts r.r.flk with
        | false=>
         have HX:=hE (y3g HLIM.out HPT.out HR1.out HR2.out (z4p hlt (by rw[HRE.out];exact j4w s1)));have HC:=hE (j4n r.r.pts r.r.flk s1 r.A2 r.A7 r.c2 r.c7 w3 hR3.rd.r2 hR3.rd.r7 hR3.rd.o.n2.1 hR3.rd.o.n7.1);clear s1;have z4:=hR3.x4;have z11:=hR3.x11;have HBB:=hE hb3;have HRR:=hE hR3;clear hb3 hR3;go_wp2_with fail
         refine HC.out.mono ?_;rintro e w4 ⟨rfl,hq⟩;have hb4:=HBB.out.now hq;have hR4:=HRR.out.now hq;clear HC HBB HRR hq z4 z11;go_wp2_with fail
         go_ret
         exact ⟨z0i HX.out.symm,hb4.bel⟩
        | true=>
         have S1:=hE s1;have HC:=hE (j4n r.r.pts r.r.flk s1 r.A2 r.A7 r.c2 r.c7 w3 hR3.rd.r2 hR3.rd.r7 hR3.rd.o.n2.1 hR3.rd.o.n7.1);clear s1;have z4:=hR3.x4;have z11:=hR3.x11;have HBB:=hE hb3;have HRR:=hE hR3;clear hb3 hR3;go_wp2_with fail
         refine HC.out.mono ?_;rintro e w4 ⟨rfl,hq⟩;have hb4:=HBB.out.now hq;have hR4:=HRR.out.now hq;clear HC HBB HRR hq z4 z11
         cases s2:y1f r.r.opts r.r.flk with
         | false=>
          have HX:=hE (y3g HLIM.out HPT.out HR1.out HR2.out (z4p hlt (by rw[HRE.out];exact j4x s2)));have HC:=hE (j4n r.r.opts r.r.flk s2 r.A5 r.A7 r.c5 r.c7 w4 hR4.rd.r5 hR4.rd.r7 hR4.rd.o.n5.1 hR4.rd.o.n7.1);clear s2;have z9:=hR4.x9;have z11:=hR4.x11;have HBB:=hE hb4;have HRR:=hE hR4;clear hb4 hR4;go_wp2_with fail
          refine HC.out.mono ?_;rintro e w5 ⟨rfl,hq⟩;have hb5:=HBB.out.now hq;have hR5:=HRR.out.now hq;clear HC HBB HRR hq z9 z11;go_wp2_with fail
          go_ret
          exact ⟨z0i HX.out.symm,hb5.bel⟩
         | true=>
          have HK2:=hE (z4a hlt HKK.out (by rw[HRE.out];exact j4y S0.out S1.out s2));have HC:=hE (j4n r.r.opts r.r.flk s2 r.A5 r.A7 r.c5 r.c7 w4 hR4.rd.r5 hR4.rd.r7 hR4.rd.o.n5.1 hR4.rd.o.n7.1);clear s2;have z9:=hR4.x9;have z11:=hR4.x11;have HBB:=hE hb4;have HRR:=hE hR4;clear hb4 hR4;go_wp2_with fail
          refine HC.out.mono ?_;rintro e w5 ⟨rfl,hq⟩;have hb5:=HBB.out.now hq;have hR5:=HRR.out.now hq;clear HC HBB HRR hq z9 z11;go_wp2_with fail
          go_roundw
          case rel=>exact ⟨k+1,by omega,by go_num,hb5,HK2⟩
          case measure=>simp[intOf];omega
      ·have HR3:=hE (z7d hlt HK.out);clear HK;have x0:=hb.x0;have hst:=z8w.made wr Tryz.prog 9 4 _ rfl;have hb1:=hb.alloc (.map #[] 0);have hgm:=hb.lt;have hmm:=@run_makeMap Tryz.prog;go_wp2_with fail
       clear x0 hb hmm;generalize wr.alloc (.map #[] 0)=W9 at *;generalize wr.heap.size=gm at *;go_loopw [110] (fun n wr=>∃ k:Nat,k≤v.t.rts.length∧n=.int .i64 k∧Bx w wr v∧z8w Tryz.prog 9 4 wr gm k (((v.t.rts.take k).map Rou.name).map Lit.string)∧Hid (((v.t.rts.map Rou.name).take k).Nodup)) (fun n _=>v.t.rts.length - (intOf n).toNat)
       case atStart=>exact ⟨0,nZ,rfl,hb1,hst,hE (by simp)⟩
       case round=>
        clear hb1 hst;obtain ⟨k,hk,rfl,hb,hst,HK⟩:=hrel;by_cases hlt:k < v.t.rts.length
        ·have hki:(k:Int) < (v.t.rts.length:Int):=by omega
         obtain ⟨b,off,r,hA,lb,hre,hrv,y0,y1,y2,y3,y4,y5,y6,y7,y8,y9,y10,y11,y12,y13⟩:=hb.rd.r1.elR hlt;have hrl3:=HSM.out _ (uE hlt);rw[←hre] at hrl3;have hre':v.t.rts[k]=r.r:=hre.symm;have hb2:=hb.alloc (.cells (z0e r) 56);have hRB:=RBx.new hrv;have x0:=hb.x0;rw[hA] at x0;have hnl:=hrv.o.nm;have hkey:=hE (y0y r.r.name hnl);have hst2:=hst.alloc (.cells (z0e r) 56);have hany:=j6l (l:=v.t.rts) (k:=k) r.r.name;have z0:=hRB.x0
         cases hd:decide (r.r.name∈(v.t.rts.map Rou.name).take k) with
         | true=>
          have HX:=hE (x6u HLIM.out HPT.out HR1.out HR2.out HR3.out (j5p hlt (by rw[hre'];exact oDt hd)));have HAN:=hE (hany.trans hd);have hB:=hb2.bel;clear hd hany HK hre hre' hrl3 hRB hb2;rw[hA];generalize ((v.t.rts.take k).map Rou.name).map Lit.string=ks at *;go_wp2_with (at_lookup;go_loud (refine z0u _ rfl _ _ 114 rfl 9 4 z7u Tryz.underlying114 Tryz.underlying4 (z4o _) gm k ks rfl hst2 _ _ rfl hkey.out true HAN.out ?_))
          go_ret
          exact ⟨z0i HX.out.symm,by first | exact hB | (rw[hA];exact hB)⟩
         | false=>
          have HT:=hE (j6n hlt HK.out (by rw[hre'];exact of_decide_eq_false hd));have HAN:=hE (hany.trans hd);have HKS:Hid (((v.t.rts.take (k+1)).map Rou.name).map Lit.string=((v.t.rts.take k).map Rou.name).map Lit.string++[.string r.r.name]):=hE (by rw[tqS hlt,List.map_append,List.map_append,hre'];rfl);have HB2:=hE hb2;have hgk:gm≠w.heap.size:=by omega
          have hgw:w.heap.size≤gm:=by omega
          clear hd hany HK hre hre' hrl3 hRB hb2;have HA:=hE hA;rw[hA];generalize ((v.t.rts.take k).map Rou.name).map Lit.string=ks at *;go_wp2_with (first | (at_lookup;go_loud (refine z0u _ rfl _ _ 114 rfl 9 4 z7u Tryz.underlying114 Tryz.underlying4 (z4o _) gm k ks rfl hst2 _ _ rfl hkey.out false HAN.out ?_)) | (at_mapUpdate;go_loud (refine z3g _ rfl _ _ _ 114 rfl 9 4 z7u Tryz.underlying114 Tryz.underlying4 gm k ks rfl hst2 (by unfold maxLen;omega) _ _ rfl rfl hkey.out ?_);intro w6 hst6 hgr6))
          go_roundw
          case rel=>exact ⟨k+1,by omega,by go_num,HB2.out.grow hr hgr6 hgw hgk,by rw[HKS.out];exact hst6,HT⟩
          case measure=>simp[intOf];omega
        ·have HX:=hE (y8f HLIM.out HPT.out HR1.out HR2.out HR3.out (by have h1:=HK.out;rwa [tlL (by simp;omega)] at h1));have hB:=hb.bel;go_wp2_with fail
         go_ret;exact ⟨z0i HX.out.symm,hB⟩
end Go.Proofs.YtpenlfedkacglaaGreatDoor
namespace Go.Proofs.YtpenlfedkacglaaGreatDoor
open Go.RowKit Go.Shelf Go.Lib
attribute [local go_sem] z05 z07 z01 z02
attribute [-go_sem] run_equalIn_agg
structure ItO (w:World) (base:Nat) (u:z1r):Prop where
 o1:z09 cRS w base 58 (.slice u.A1 u.i.rts.length u.c1) u.i.rts 0
 o2:z09 cI w base 3 (.slice u.A2 u.i.lies.length u.c2) u.i.lies 0
theorem ItO.now {w w':World} {base:Nat} {u:z1r} (h:ItO w base u) (hb:Below w.heap.size w w'):ItO w' base u:=⟨h.o1.now hb,h.o2.now hb⟩
theorem ItO.lower {w:World} {base base':Nat} {u:z1r} (h:ItO w base' u) (hb:base≤base'):ItO w base u:=⟨h.o1.lower hb,h.o2.lower hb⟩
theorem ItO.rd {w:World} {base:Nat} {u:z1r} (h:ItO w base u):y1j w u:=⟨h.o1.rdn.2.more fun b h=>h.2,h.o2.rdn.2.more fun b h=>h.2,h.o1.rdn.1,h.o2.rdn.1⟩
theorem x0r (u:z1r) (w:World) (hs:y1j w u) (h1:u.i.rts.length≤100000) (h2:u.i.lies.length≤100000):Calls Tryz.prog 25 #[.agg (z1v u)] w fun e w'=>∃ u':z1r,e=.returned (.agg #[.slice u'.A1 u'.i.rts.length u'.c1,.slice u'.A2 u'.i.lies.length u'.c2])∧u'.i=u.i∧ItO w' w.heap.size u'∧Below w.heap.size w w':=by
 obtain ⟨W2,hW2⟩:∃ W,W=(w.alloc (.cells (z1v u) 41)).alloc (.cells #[.slice none 0 0,.slice none 0 0] 41):=⟨_,rfl⟩
 have hb2:Below w.heap.size w W2:=by rw[hW2];exact (bQ.alloc nL _).alloc (by simp) _
 have hx0:Blk W2 w.heap.size 41 (z1v u):=by rw[hW2];exact (Blk.new _ _ _ _ rfl).alloc _
 have hz:Blk W2 (w.heap.size+1) 41 #[.slice none 0 0,.slice none 0 0]:=by rw[hW2];exact Blk.new _ _ _ _ (by simp)
 have HC1:=hE fun W' (h:Below W2.heap.size W2 W')=>y6y u.i.rts u.A1 u.c1 W' (hs.now (z00 hb2 hb2.size h)).r1 h1
 have HC2:=hE fun W' (h:Below W2.heap.size W2 W')=>z2j u.i.lies u.A2 u.c2 W' (hs.now (z00 hb2 hb2.size h)).r2 h2
 have l0:=hx0.lt;have HSS:Hid (∀ W,Blk W w.heap.size 41 (z1v u)→(fun w'=>w'.cell? ⟨w.heap.size,0,none⟩=some (.slice u.A1 u.i.rts.length u.c1)∧w'.cell? ⟨w.heap.size,1,none⟩=some (.slice u.A2 u.i.lies.length u.c2)) W):=hE fun W h=>⟨h.cell 0,h.cell 1⟩
 clear hs l0;go_enter Tryz.func25,Tryz.ntmps25
 go_wp2_with fail;rw[←hW2];clear hW2;refine rgR 8 HSS hx0.drew fun hHeld=>?_
 refine tkM 4 [0,1,3,4] ?_;refine rd1 2 rfl fun K hK=>?_
 go_simp;go_at_call 61
 refine (HC1.out _ bQ.drew).mono ?_;rintro e w3 ⟨v3,rfl,ho3,hq3⟩;obtain ⟨B1,d1,rfl⟩:=ho3.form;have hq3':Below W2.heap.size W2 w3:=bQ.drew.trans hq3;go_wp2_with fail
 refine hK.out _ _ (HSS.out _ (hx0.now hq3')) (fun hHeld=>?_);clear hK K;try simp only[Act.put,lsa,lsz,lss]
 refine rd1 5 rfl fun K hK=>?_
 go_simp;go_at_call 24
 refine (HC2.out _ hq3').mono ?_;rintro e w4 ⟨v4,rfl,ho4,hq4⟩;obtain ⟨B2,d2,rfl⟩:=ho4.form;have hq4':Below W2.heap.size W2 w4:=z00 hq3' hq3'.size hq4;go_wp2_with fail
 refine hK.out _ _ (HSS.out _ (hx0.now hq4')) (fun hHeld=>?_);clear hK K;try simp only[Act.put,lsa,lsz,lss]
 refine tkM 1 [6] ?_;have hz4:=hz.now hq4';have hx4:=hx0.now hq4';have hb4:=z00 hb2 hb2.size hq4';have r0:=hz4.cell 0;have r1:=hz4.cell 1;have rf:=hz4.free;have rl:=hz4.lt;simp only[gqA,gqZ,gqS] at r0 r1;have ho34:=(ho3.now hq4).lower (show w.heap.size≤W2.drew.heap.size from hb2.size);have ho44:=ho4.lower (nR hb2.size hq3'.size);have hne:w.heap.size≠w.heap.size+1:=by omega
 have hx5:Blk ((w4.setCell ⟨w.heap.size+1,0,none⟩ (.slice B1 u.i.rts.length d1)).setCell ⟨w.heap.size+1,1,none⟩ (.slice B2 u.i.lies.length d2)) w.heap.size 41 (z1v u):=(hx4.far (p:=⟨w.heap.size+1,0,none⟩) hne _).far (p:=⟨w.heap.size+1,1,none⟩) hne _;have hz5:Blk ((w4.setCell ⟨w.heap.size+1,0,none⟩ (.slice B1 u.i.rts.length d1)).setCell ⟨w.heap.size+1,1,none⟩ (.slice B2 u.i.lies.length d2)) (w.heap.size+1) 41 #[.slice B1 u.i.rts.length d1,.slice B2 u.i.lies.length d2]:=(hz4.set 0 _).set 1 _;have hb5:Below w.heap.size w ((w4.setCell ⟨w.heap.size+1,0,none⟩ (.slice B1 u.i.rts.length d1)).setCell ⟨w.heap.size+1,1,none⟩ (.slice B2 u.i.lies.length d2)):=(hb4.setCell (p:=⟨w.heap.size+1,0,none⟩) (by simp) _).setCell (p:=⟨w.heap.size+1,1,none⟩) (by simp) _;have ho35:=(ho34.set (w.heap.size+1) 0 (.slice B1 u.i.rts.length d1) 41 _ hz4 (by decide) nZ).set (w.heap.size+1) 1 (.slice B2 u.i.lies.length d2) 41 _ (hz4.set 0 _) (by decide) nZ;have ho45:=(ho44.set (w.heap.size+1) 0 (.slice B1 u.i.rts.length d1) 41 _ hz4 (by decide) nZ).set (w.heap.size+1) 1 (.slice B2 u.i.lies.length d2) 41 _ (hz4.set 0 _) (by decide) nZ;have HF:=hE (aIq hz5 (aIq hb5 (aIq ho35 ho45)));refine rd1 7 rfl fun K hK=>?_
 go_simp;refine hK.out _ _ (HSS.out _ hx5) (fun hHeld=>?_);clear hK K;try simp only[Act.put,lsa,lsz,lss]
 refine wdn ?_;go_wp2_with fail
 obtain ⟨p,hbf,h5,h6⟩:=HF.out;have p0:=p.cell 0;have p1:=p.cell 1;have pl:=p.lt;simp only[gqA,gqZ,gqS] at p0 p1;exact bodyPost_ret (v:=.agg #[.slice B1 u.i.rts.length d1,.slice B2 u.i.lies.length d2]) (by simp[results,Tryz.results25,go_sem,p0,p1,pl]) rfl ⟨{ u with A1:=B1,A2:=B2,c1:=d1,c2:=d2 },rfl,rfl,⟨h5,h6⟩,hbf⟩
instance inhRSt:Inhabited RSt:=⟨zS⟩
end Go.Proofs.YtpenlfedkacglaaGreatDoor
