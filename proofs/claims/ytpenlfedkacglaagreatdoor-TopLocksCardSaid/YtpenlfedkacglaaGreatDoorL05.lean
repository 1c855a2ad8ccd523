import Derived.Test.YtpenlfedkacglaaGreatDoorL04
import Derived.Ground.Names2Prog
import Derived.Ground.SlgfProg
import Derived.Ground.SlgnProg
import Derived.Ground.SlgqProg
import Derived.Ground.SlsfProg
import Derived.Shelf.LaysM
import Derived.Shelf.SlGeneric
import Derived.Shelf.SlSortCmp.NoneTotal
import Derived.Shelf.Slices.Cells
import Derived.Shelf.Slices.Clone
import Derived.Shelf.Slices.CompactI
import Derived.Shelf.Slices.In.SortNone
import Derived.Shelf.Slices.SearchI
import Derived.Shelf.Slices.Turned
import Derived.Shelf.SlicesE.Clone
import Derived.Shelf.SlicesE.IndexFunc
import Derived.Shelf.SlicesQ.Contains
import Derived.Shelf.SlicesQ.IndexFunc
import Derived.Shelf.Small.Bits
import Derived.Shelf.Small.Wraps
import Derived.Shelf.Sort.Plain
import Derived.Shelf.Strconv.Itoa0
import Derived.Shelf.Strconv.Itoa1
import Derived.Shelf.Strconv.Itoa2
import Derived.Shelf.Strconv.Itoa3
import Derived.Test.YtpenlfedkacglaaGreatDoorProg
set_option maxRecDepth 100000
set_option maxHeartbeats 40000000
set_option linter.all false
namespace Go.Proofs.YtpenlfedkacglaaGreatDoor
open Go.RowKit
attribute [local go_sem] z05 z07 z01 z02
attribute [-go_sem] run_equalIn_agg
def z6w (o:Option z0o):Value:=.tuple #[.agg #[.int .i64 (o.getD ⟨0,0⟩).el,.int .i64 (o.getD ⟨0,0⟩).sd],.bool o.isSome]
theorem y3u {o:Option z0o} {l:List Jnt} {x:z0o} {a b:Int} {c:Bool} (h:z03 l x=o) (ha:a=(o.getD ⟨0,0⟩).el) (hb:b=(o.getD ⟨0,0⟩).sd) (hc:c=o.isSome):Ending.returned (.tuple #[.agg #[.int .i64 a,.int .i64 b],.bool c])=.returned (z6w (z03 l x)):=by subst ha hb hc;rw[h];rfl
theorem j2a {l:List Jnt} {k:Nat} (h:k < l.length) (x:z0o):z03 (l.drop k) x=if l[k].a=x then some l[k].b else if l[k].b=x then some l[k].a else z03 (l.drop (k+1)) x:=by
 rw[List.drop_eq_getElem_cons h];rfl
theorem z6g (v:LV) (x:z0o) (w:World) (hr:LvR w v):Calls Tryz.prog 79 #[lvA v,.agg #[.int .i64 x.el,.int .i64 x.sd]] w fun e w'=>e=.returned (z6w (z03 v.l.jts x))∧Below w.heap.size w w':=by
 obtain ⟨W2,hW2⟩:∃ W,W=((w.alloc (.cells (z1c v) 28)).alloc (.cells #[.int .i64 x.el,.int .i64 x.sd] 90)).alloc (.cells #[.int .i64 0,.int .i64 0] 90):=⟨_,rfl⟩
 have hbx:Lx w W2 v:=by rw[hW2];exact ((Lx.new hr).alloc _).alloc _
 have hx1:Blk W2 (w.heap.size+1) 90 #[.int .i64 x.el,.int .i64 x.sd]:=by rw[hW2];exact (Blk.new _ _ _ _ (by simp)).alloc _
 have hz1:Blk W2 (w.heap.size+1+1) 90 #[.int .i64 0,.int .i64 0]:=by rw[hW2];exact Blk.new _ _ _ _ (by simp)
 have hn:=hr.n3.1;have HQ:=hE fun W (y:z0o)=>x3c W 9998 y x
 unfold maxLen at hn;unfold lvA;go_enter Tryz.func79,Tryz.ntmps79
 go_wp2_with fail;rw[←hW2];clear hW2;go_loopw [11] (fun i wr=>∃ k:Nat,k≤v.l.jts.length∧i=.int .i64 k∧Lx w wr v∧Blk wr (w.heap.size+1) 90 #[.int .i64 x.el,.int .i64 x.sd]∧Blk wr (w.heap.size+1+1) 90 #[.int .i64 0,.int .i64 0]∧Hid (z03 (v.l.jts.drop k) x=z03 v.l.jts x)) (fun i _=>v.l.jts.length - (intOf i).toNat)
 case atStart=>exact ⟨0,nZ,rfl,hbx,hx1,hz1,hE rfl⟩
 case round=>
  obtain ⟨k,hk,rfl,hb,hxb,hzb,HK⟩:=hrel;clear hbx hx1 hz1;have hsz:=hzb.lt;have hsz1:=hxb.lt;have hbb:=hb.bel;by_cases hlt:k < v.l.jts.length
  ·have hki:(k:Int) < (v.l.jts.length:Int):=by omega
   obtain ⟨b,off,hA,lb,ho,y0,y1,y2,y3⟩:=hb.rd.r3.elJ hlt;have hba:=hb.alloc (.cells #[.int .i64 v.l.jts[k].a.el,.int .i64 v.l.jts[k].a.sd,.int .i64 v.l.jts[k].b.el,.int .i64 v.l.jts[k].b.sd] 107);have hxa:=hxb.alloc (.cells #[.int .i64 v.l.jts[k].a.el,.int .i64 v.l.jts[k].a.sd,.int .i64 v.l.jts[k].b.el,.int .i64 v.l.jts[k].b.sd] 107);have hza:=hzb.alloc (.cells #[.int .i64 v.l.jts[k].a.el,.int .i64 v.l.jts[k].a.sd,.int .i64 v.l.jts[k].b.el,.int .i64 v.l.jts[k].b.sd] 107);have z0:wr.cell? ⟨w.heap.size+1,0,none⟩=some (.int .i64 x.el):=hxb.cell 0;have z1:wr.cell? ⟨w.heap.size+1,1,none⟩=some (.int .i64 x.sd):=hxb.cell 1;have q0:wr.cell? ⟨w.heap.size+1+1,0,none⟩=some (.int .i64 0):=hzb.cell 0;have q1:wr.cell? ⟨w.heap.size+1+1,1,none⟩=some (.int .i64 0):=hzb.cell 1;have qf:=hzb.free;have hB:=hE hba.bel;rw[hA];have hqa:=fun W=>HQ.out W v.l.jts[k].a
   have hqb:=fun W=>HQ.out W v.l.jts[k].b
   have HJ:=hE (j2a hlt x)
   cases hd:decide (v.l.jts[k].a=x) with
   | true=>
    have HE:Hid (z03 v.l.jts x=some v.l.jts[k].b):=hE (by rw[←HK.out,HJ.out,if_pos (oDt hd)]);rw[hd] at hqa;clear hd hA ho HJ HK hqb;generalize v.l.jts[k]=q at *;go_wp2_with fail
    exact bodyPost_ret (v:=.tuple #[.agg #[.int .i64 q.b.el,.int .i64 q.b.sd],.bool true]) (by simp[results,Tryz.results79,go_sem,q0,q1,hsz]) rfl ⟨y3u HE.out rfl rfl rfl,blz⟩
   | false=>
    rw[hd] at hqa
    cases hd2:decide (v.l.jts[k].b=x) with
    | true=>
     have HE:Hid (z03 v.l.jts x=some v.l.jts[k].a):=hE (by rw[←HK.out,HJ.out,if_neg (of_decide_eq_false hd),if_pos (oDt hd2)]);rw[hd2] at hqb;clear hd hd2 hA ho HJ HK;generalize v.l.jts[k]=q at *;go_wp2_with fail
     exact bodyPost_ret (v:=.tuple #[.agg #[.int .i64 q.a.el,.int .i64 q.a.sd],.bool true]) (by simp[results,Tryz.results79,go_sem,q0,q1,hsz]) rfl ⟨y3u HE.out rfl rfl rfl,blz⟩
    | false=>
     have HX:Hid (z03 (v.l.jts.drop (k+1)) x=z03 v.l.jts x):=hE (by rw[←HK.out,HJ.out,if_neg (of_decide_eq_false hd),if_neg (of_decide_eq_false hd2)]);rw[hd2] at hqb;clear hd hd2 hA ho HJ HK;generalize v.l.jts[k]=q at *;go_wp2_with fail
     go_roundw
     case rel=>exact ⟨k+1,by omega,by go_num,hba,hxa,hza,HX⟩
     case measure=>simp[intOf];omega
  ·have HE:Hid (z03 v.l.jts x=none):=hE (by rw[←HK.out,List.drop_of_length_le (by omega)];rfl);have q0:wr.cell? ⟨w.heap.size+1+1,0,none⟩=some (.int .i64 0):=hzb.cell 0;have q1:wr.cell? ⟨w.heap.size+1+1,1,none⟩=some (.int .i64 0):=hzb.cell 1;have qf:=hzb.free;have hB:=hb.bel;clear hb hxb hzb;go_wp2_with fail
   exact bodyPost_ret (v:=.tuple #[.agg #[.int .i64 0,.int .i64 0],.bool false]) (by simp[results,Tryz.results79,go_sem,q0,q1,hsz]) rfl ⟨y3u HE.out rfl rfl rfl,blz⟩
theorem y85 (v:LV) (i:Int) (w:World) (hr:LvR w v):Calls Tryz.prog 100 #[lvA v,.int .i64 i] w fun e w'=>e=.returned (.bool (z2w v.l i))∧Below w.heap.size w w':=by
 have hbx:=Lx.new hr;have hn:=hr.n2.1;unfold maxLen at hn;unfold lvA;by_cases h0:0≤i;case neg=>
  have HX:Hid (z2w v.l i=false):=hE (by simp[z2w,h0]);have t1:decide (0≤i)=false:=by simpa using h0
  go_enter Tryz.func100,Tryz.ntmps100
  go_wp2_with fail;go_ret
  exact ⟨z0a HX.out.symm,hbx.bel⟩
 case pos=>
  have t1:decide (0≤i)=true:=by simpa using h0
  by_cases h1:i < v.l.els.length
  ·have HX:Hid (z2w v.l i=true):=hE (by simp[z2w,h0,h1]);have t2:decide (i < (v.l.els.length:Int))=true:=by simpa using h1
   go_enter Tryz.func100,Tryz.ntmps100
   go_wp2_with fail;go_ret
   exact ⟨z0a HX.out.symm,hbx.bel⟩
  ·have HX:Hid (z2w v.l i=false):=hE (by simp[z2w,h0,h1]);have t2:decide (i < (v.l.els.length:Int))=false:=by simpa using h1
   go_enter Tryz.func100,Tryz.ntmps100
   go_wp2_with fail;go_ret
   exact ⟨z0a HX.out.symm,hbx.bel⟩
theorem z4n {b:Bool} (v:LV) (i:Int) (h:z2w v.l i=b) (w:World) (hr:LvR w v):Calls Tryz.prog 100 #[.agg (z1c v),.int .i64 i] w fun e w'=>e=.returned (.bool b)∧Below w.heap.size w w':=h▸y85 v i w hr
theorem z5q {l:Lay} {n:Nat} (h:n < l.els.length):z0s l (n:Int)=l.els[n].kind:=by simp[z0s,h]
theorem x8e {l:Lay} {n:Nat} (h:n < l.els.length):z6o l (n:Int)=l.els[n].len:=by simp[z6o,h]
theorem z5a {l:Lay} {i:Int} (h:z2w l i=true):∃ n:Nat,i=n∧n < l.els.length:=by
 rw[z4k] at h;exact ⟨i.toNat,by omega,by omega⟩
theorem j8u {k i o:Int} {r:Option Int} (h:z2a k i o=r) (w:World) (E:EnvR w):Calls Tryz.prog 84 #[.int .i64 k,.int .i64 i,.int .i64 o] w fun e w'=>e=.returned (.tuple #[.int .i64 (r.getD 0),.bool r.isSome])∧Below w.heap.size w w':=h▸y3z k i o w E
theorem y62 (v:LV) (s:Stp) (w:World) (E:EnvR w) (hr:LvR w v):Calls Tryz.prog 98 #[lvA v,.agg #[.int .i64 s.el,.int .i64 s.inn,.int .i64 s.out]] w fun e w'=>e=.returned (.tuple #[.int .i64 ((x1y v.l s).getD 0),.bool (x1y v.l s).isSome])∧Below w.heap.size w w':=by
 obtain ⟨el,inn,out⟩:=s;dsimp only;obtain ⟨W2,hW2⟩:∃ W,W=(w.alloc (.cells (z1c v) 28)).alloc (.cells #[.int .i64 el,.int .i64 inn,.int .i64 out] 85):=⟨_,rfl⟩
 have hbx:Lx w W2 v:=by rw[hW2];exact (Lx.new hr).alloc _
 have hx1:Blk W2 (w.heap.size+1) 85 #[.int .i64 el,.int .i64 inn,.int .i64 out]:=by rw[hW2];exact Blk.new _ _ _ _ (by simp)
 have hn:=hr.n2.1;unfold maxLen at hn;unfold lvA
 cases he:z2w v.l el with
 | false=>
  have HX:Hid (x1y v.l ⟨el,inn,out⟩=none):=hE (by unfold x1y;dsimp only;rw[he];rfl);have HE:=hE (z4n v el he W2 hbx.rd);go_enter Tryz.func98,Tryz.ntmps98
  go_wp2_with fail;rw[←hW2];refine HE.out.mono ?_;rintro e w3 ⟨rfl,hq⟩;have hb3:=z00 hbx.bel hbx.bel.size hq;clear hW2;go_wp2_with fail
  exact bodyPost_ret (v:=.tuple #[.int .i64 0,.bool false]) (by simp[results,Tryz.results98,go_sem]) rfl ⟨by rw[HX.out];rfl,hb3⟩
 | true=>
  obtain ⟨n,rfl,hlt⟩:=z5a he;have HE:=hE (z4n v n he W2 hbx.rd);obtain ⟨r,hr2⟩:∃ r,z2a v.l.els[n].kind inn out=r:=⟨_,rfl⟩
  have HX:Hid (x1y v.l ⟨(n:Int),inn,out⟩=r):=hE (by unfold x1y;dsimp only;rw[he,if_pos rfl,z5q hlt];exact hr2);have HN:=hE fun W E=>j8u hr2 W E
  go_enter Tryz.func98,Tryz.ntmps98
  go_wp2_with fail;rw[←hW2];refine HE.out.mono ?_;rintro e w3 ⟨rfl,hq⟩;have hb3:=hbx.now hq;have hx3:=hx1.now hq;obtain ⟨b,off,hA,lb,ho,y0,y1,y2,y3,y4,y5,y6⟩:=hb3.rd.r2.elE hlt;have E3:=E.now hb3.bel;have hbb:=hb3.bel;have x2:=hb3.x2;rw[hA] at x2;have z0:=hx3.cell 0;have z1:=hx3.cell 1;have z2:=hx3.cell 2;have lz:=hx3.lt;simp only[gqA,gqZ,gqS] at z0 z1 z2;have lb':b < w3.heap.size:=lb;have hki:(n:Int) < (v.l.els.length:Int):=by omega
  clear hW2 hbx hx1 hb3 hx3 HE hq y0 y2 y3 y4 y5 y6 ho he E;generalize v.l.els[n].kind=kd at *;go_upto_region 3 with (fail)
  have HSS:Hid (∀ W,Below w3.heap.size w3 W→(fun w'=>w'.cell? ⟨w.heap.size,2,none⟩=some (.slice (some ⟨b,off,none⟩) v.l.els.length v.c2)∧w'.cell? ⟨w.heap.size+1,0,none⟩=some (.int .i64 n)∧w'.cell? ⟨w.heap.size+1,1,none⟩=some (.int .i64 inn)∧w'.cell? ⟨w.heap.size+1,2,none⟩=some (.int .i64 out)∧w'.cell? ⟨b,off+n*7+1,none⟩=some (.int .i64 kd)∧Below w3.heap.size w3 w') W):=hE fun W h=>⟨(h.cell (p:=⟨w.heap.size,2,none⟩) (show w.heap.size < w3.heap.size by omega)).trans x2,(h.cell (p:=⟨w.heap.size+1,0,none⟩) lz).trans z0,(h.cell (p:=⟨w.heap.size+1,1,none⟩) lz).trans z1,(h.cell (p:=⟨w.heap.size+1,2,none⟩) lz).trans z2,(h.cell (p:=⟨b,off+n*7+1,none⟩) lb').trans y1,h⟩
  clear x2 z0 z1 z2 y1;refine rgS 16 HSS fun hHeld=>?_
  refine tkM 11 [0,1,2,3,4,5,6,7,8,9,10] ?_;refine rd1 11 rfl fun K hK=>?_
  go_simp;go_at_call 84
  refine (HN.out _ (E3.now bQ.drew)).mono ?_;rintro e wq ⟨rfl,hqq⟩;have hbq:Below w3.heap.size w3 wq:=bQ.drew.trans hqq;go_wp2_with fail
  refine hK.out _ _ (HSS.out _ hbq) (fun hHeld=>?_);clear hK K;try simp only[Act.put,lsa,lsz,lss]
  refine tkM 4 [12,13,14,15] ?_;refine wdn ?_;have hbz:=z00 hbb hbb.size hbq;go_wp2_with fail
  exact bodyPost_ret (v:=.tuple #[.int .i64 (r.getD 0),.bool r.isSome]) (by simp[results,Tryz.results98,go_sem]) rfl ⟨by rw[HX.out],hbz⟩
theorem y9j {n k:Nat} {f:Nat→Bool} (hk:k < n) (h:f k=false):(List.range n).all f=false:=by
 rw[Bool.eq_false_iff];intro h2;rw[List.all_eq_true.1 h2 k (List.mem_range.2 hk)] at h;cases h
theorem y66 {n:Nat} {f:Nat→Bool} (h:∀ j,j < n→f j=true):(List.range n).all f=true:=List.all_eq_true.2 fun j hj=>h j (List.mem_range.1 hj)
theorem upto_succ {f:Nat→Bool} {k:Nat} (h:∀ j,j < k→f j=true) (h2:f k=true):∀ j,j < k+1→f j=true:=fun j hj=>by
 by_cases e:j=k
 ·exact e▸h2
 ·exact h j (by omega)
theorem getD_at {α:Type} {l:List α} {k:Nat} (h:k < l.length) (z:α):l.getD k z=l[k]:=by simp[List.getD,gqE h]
theorem j0e {t:Tab} {k:Nat} {q:Int} (h1:t.pts.getD k 0=q) (h:q < 0):ptB t k=false:=by unfold ptB;rw[h1,dFf (by omega)];rfl
theorem j6u {t:Tab} {k:Nat} {q p:Int} (h1:t.pts.getD (k+1) 0=q) (h2:t.pts.getD k 0=p) (h:q≤p):ptB t (k+1)=false:=by
 unfold ptB;rw[h1,Nat.add_sub_cancel,h2,dFf (show ¬k+1=0 by omega),dFf (show ¬p < q by omega)];simp
theorem j0f {t:Tab} {k:Nat} {m:Int} (h1:t.homes.getD k 0=m) (h:inB m 0 (t.nsec - 1)=false):ptB t k=false:=by unfold ptB;rw[h1,h];simp
theorem j3f {t:Tab} {q m:Int} (h1:t.pts.getD 0 0=q) (h2:t.homes.getD 0 0=m) (h3:¬q < 0) (h:inB m 0 (t.nsec - 1)=true):ptB t 0=true:=by unfold ptB;rw[h1,h2,h,dTt (show 0≤q by omega)];rfl
theorem j3g {t:Tab} {k:Nat} {q p m:Int} (h1:t.pts.getD (k+1) 0=q) (h2:t.pts.getD k 0=p) (h3:t.homes.getD (k+1) 0=m) (h4:¬q < 0) (h5:¬q≤p) (h:inB m 0 (t.nsec - 1)=true):ptB t (k+1)=true:=by
 unfold ptB;rw[h1,Nat.add_sub_cancel,h2,h3,h,dTt (show 0≤q by omega),dTt (show p < q by omega)];simp
theorem y0k (v:z1w) (w:World) (hr:TvR w v) (hs:v.t.nsec≤1000):Calls Tryz.prog 53 #[tvA v] w fun e w'=>e=.returned (.bool (y4d v.t))∧Below w.heap.size w w':=by
 have hbx:=Bx.new hr;have h1:=hr.n2.1;have h2:=hr.n3.1;unfold maxLen at h1 h2;by_cases hl:v.t.homes.length=v.t.pts.length;case neg=>
  have HX:Hid (y4d v.t=false):=hE (by unfold y4d;rw[dFf hl];rfl);have hlb:((v.t.homes.length:Int) != (v.t.pts.length:Int))=true:=by simp;omega
  have x1:=hbx.x1;have x2:=hbx.x2;clear hl;unfold tvA;go_enter Tryz.func53,Tryz.ntmps53
  go_wp2_with fail;go_ret
  exact ⟨z0a HX.out.symm,hbx.bel⟩
 have HY:Hid (∀ k,k < v.t.pts.length→ptB v.t k=false→y4d v.t=false):=hE fun k hk h=>by unfold y4d;rw[y9j hk h,Bool.and_false]
 have HZ:Hid ((∀ k,k < v.t.pts.length→ptB v.t k=true)→y4d v.t=true):=hE fun h=>by unfold y4d;rw[y66 h,dTt hl];rfl
 have hlb:((v.t.homes.length:Int) != (v.t.pts.length:Int))=false:=by simp;omega
 have HL:=hE hl;have x1:=hbx.x1;have x2:=hbx.x2;clear hl;unfold tvA;go_enter Tryz.func53,Tryz.ntmps53
 go_wp2_with fail;clear x1 x2;go_loopw [15] (fun n wr=>∃ k:Nat,k≤v.t.pts.length∧n=.int .i64 k∧Bx w wr v∧Hid (∀ j,j < k→ptB v.t j=true)) (fun n _=>v.t.pts.length - (intOf n).toNat)
 case atStart=>exact ⟨0,nZ,rfl,hbx,hE (fun j hj=>absurd hj (Nat.not_lt_zero _))⟩
 case round=>
  obtain ⟨k,hk,rfl,hb,HK⟩:=hrel;clear hbx;by_cases hlt:k < v.t.pts.length
  ·have hki:(k:Int) < (v.t.pts.length:Int):=by omega
   have hlh:k < v.t.homes.length:=by have:=HL.out;omega
   have hkh:(k:Int) < (v.t.homes.length:Int):=by omega
   obtain ⟨b,off,hA,lb,ho,y0⟩:=hb.rd.r2.elI hlt;obtain ⟨b2,off2,hA2,lb2,ho2,z0⟩:=hb.rd.r3.elI hlh;have x1:=hb.x1;have x2:=hb.x2;have x3:=hb.x3;have HB:=hb.bel;have HNO:=hE (HY.out k hlt);have HGQ:=hE (getD_at hlt (0:Int));have HGM:=hE (getD_at hlh (0:Int));rw[hA2] at x2;by_cases hk0:k=0
   ·have hz0':¬(0:Int) < (k:Int):=by omega
    have hz0n:¬0 < k:=by omega
    have hz0e:(decide (0 < (k:Int)))=false:=by simp;omega
    clear hA2;rw[hA] at x1 ⊢;clear hA;generalize v.t.pts[k]=q at *;generalize v.t.homes[k]=m at *;have HK0:=hE hk0;clear hk0;by_cases c1:q < 0
    ·have HX:=hE (HNO.out (j0e HGQ.out c1));clear HNO HGQ HGM HK;go_wp2_with fail
     (refine wp_region_quiet_lit (by kernel_rfl) (by kernel_rfl) ?_;(repeat (any_goals (first | go_big_quiet_step ((first | (go_at_call 52;exact Calls.quiet_of_same (z1x _ _ _ (by omega))))) | quiet_step ((first | (go_at_call 52;exact Calls.quiet_of_same (z1x _ _ _ (by omega))))) | (refine wpQuiet_step (fun K hK=>?_);go_simp;split <;> (refine hK _ ?_;clear hK K)))));all_goals (refine wpQuiet_nil ?_;intro _ hw';obtain ⟨nq,hw''⟩:=hw';subst hw''))
     all_goals (go_wp2_with fail)
     all_goals (go_ret;exact ⟨z0a HX.out.symm,blz⟩)
    ·cases c3:inB m 0 (v.t.nsec - 1) with
     | false=>
      have HX:=hE (HNO.out (j0f HGM.out c3));clear HNO HGQ HGM HK;go_wp2_with fail
      (refine wp_region_quiet_lit (by kernel_rfl) (by kernel_rfl) ?_;(repeat (any_goals (first | go_big_quiet_step ((first | (go_at_call 52;exact Calls.quiet_of_same (z1x _ _ _ (by omega))))) | quiet_step ((first | (go_at_call 52;exact Calls.quiet_of_same (z1x _ _ _ (by omega))))) | (refine wpQuiet_step (fun K hK=>?_);go_simp;split <;> (refine hK _ ?_;clear hK K)))));all_goals (refine wpQuiet_nil ?_;intro _ hw';obtain ⟨nq,hw''⟩:=hw';subst hw''))
      all_goals (go_wp2_with fail)
      all_goals (go_ret;exact ⟨z0a HX.out.symm,blz⟩)
     | true=>
      have HX:=hE (upto_succ HK.out (by have e:=HK0.out;subst e;exact j3f HGQ.out HGM.out c1 c3));clear HNO HGQ HGM HK;go_wp2_with fail
      (refine wp_region_quiet_lit (by kernel_rfl) (by kernel_rfl) ?_;(repeat (any_goals (first | go_big_quiet_step ((first | (go_at_call 52;exact Calls.quiet_of_same (z1x _ _ _ (by omega))))) | quiet_step ((first | (go_at_call 52;exact Calls.quiet_of_same (z1x _ _ _ (by omega))))) | (refine wpQuiet_step (fun K hK=>?_);go_simp;split <;> (refine hK _ ?_;clear hK K)))));all_goals (refine wpQuiet_nil ?_;intro _ hw';obtain ⟨nq,hw''⟩:=hw';subst hw''))
      all_goals (go_wp2_with fail)
      all_goals go_roundw
      case rel=>exact ⟨k+1,by omega,by go_num,hb.now (Below.drewN bQ _),HX⟩
      case measure=>simp[intOf];omega
   ·obtain ⟨j,hj⟩:∃ j,k=j+1:=⟨k - 1,by omega⟩
    have hz0':(0:Int) < (k:Int):=by omega
    have hltp:j < v.t.pts.length:=by omega
    have hkp:(j:Int) < (v.t.pts.length:Int):=by omega
    obtain ⟨b',off',hA',_,ho',u0⟩:=hb.rd.r2.elI hltp;obtain ⟨rfl,rfl⟩:b=b'∧off=off':=by rw[hA] at hA';simp only[qE,Addr.mk.injEq] at hA';exact ⟨hA'.1,hA'.2.1⟩
    have HGP:=hE (getD_at hltp (0:Int));rw[show off+j=off+(k - 1) by omega] at u0;have hwk:IntKind.i64.wrap ((k:Int) - 1)=(k:Int) - 1:=IntWalk.i64_in _ (by omega);have HJ:=hE hj;clear hA2 hk0;rw[hA] at x1 ⊢;clear hA hA' ho' hj;generalize v.t.pts[k]=q at *;generalize v.t.pts[j]=p at *;generalize v.t.homes[k]=m at *;by_cases c1:q < 0
    ·have HX:=hE (HNO.out (j0e HGQ.out c1));clear HNO HGQ HGM HK;go_wp2_with fail
     (refine wp_region_quiet_lit (by kernel_rfl) (by kernel_rfl) ?_;(repeat (any_goals (first | go_big_quiet_step ((first | (go_at_call 52;exact Calls.quiet_of_same (z1x _ _ _ (by omega))))) | quiet_step ((first | (go_at_call 52;exact Calls.quiet_of_same (z1x _ _ _ (by omega))))) | (refine wpQuiet_step (fun K hK=>?_);go_simp;split <;> (refine hK _ ?_;clear hK K)))));all_goals (refine wpQuiet_nil ?_;intro _ hw';obtain ⟨nq,hw''⟩:=hw';subst hw''))
     all_goals (go_wp2_with fail)
     all_goals (go_ret;exact ⟨z0a HX.out.symm,blz⟩)
    ·by_cases c2:q≤p
     ·have HX:=hE (HNO.out (by have e:=HJ.out;subst e;exact j6u HGQ.out HGP.out c2));clear HNO HGQ HGM HK;go_wp2_with fail
      (refine wp_region_quiet_lit (by kernel_rfl) (by kernel_rfl) ?_;(repeat (any_goals (first | go_big_quiet_step ((first | (go_at_call 52;exact Calls.quiet_of_same (z1x _ _ _ (by omega))))) | quiet_step ((first | (go_at_call 52;exact Calls.quiet_of_same (z1x _ _ _ (by omega))))) | (refine wpQuiet_step (fun K hK=>?_);go_simp;split <;> (refine hK _ ?_;clear hK K)))));all_goals (refine wpQuiet_nil ?_;intro _ hw';obtain ⟨nq,hw''⟩:=hw';subst hw''))
      all_goals (go_wp2_with fail)
      all_goals (go_ret;exact ⟨z0a HX.out.symm,blz⟩)
     ·cases c3:inB m 0 (v.t.nsec - 1) with
      | false=>
       have HX:=hE (HNO.out (j0f HGM.out c3));clear HNO HGQ HGM HK;go_wp2_with fail
       (refine wp_region_quiet_lit (by kernel_rfl) (by kernel_rfl) ?_;(repeat (any_goals (first | go_big_quiet_step ((first | (go_at_call 52;exact Calls.quiet_of_same (z1x _ _ _ (by omega))))) | quiet_step ((first | (go_at_call 52;exact Calls.quiet_of_same (z1x _ _ _ (by omega))))) | (refine wpQuiet_step (fun K hK=>?_);go_simp;split <;> (refine hK _ ?_;clear hK K)))));all_goals (refine wpQuiet_nil ?_;intro _ hw';obtain ⟨nq,hw''⟩:=hw';subst hw''))
       all_goals (go_wp2_with fail)
       all_goals (go_ret;exact ⟨z0a HX.out.symm,blz⟩)
      | true=>
       have HX:=hE (upto_succ HK.out (by have e:=HJ.out;subst e;exact j3g HGQ.out HGP.out HGM.out c1 c2 c3));clear HNO HGQ HGM HK;go_wp2_with fail
       (refine wp_region_quiet_lit (by kernel_rfl) (by kernel_rfl) ?_;(repeat (any_goals (first | go_big_quiet_step ((first | (go_at_call 52;exact Calls.quiet_of_same (z1x _ _ _ (by omega))))) | quiet_step ((first | (go_at_call 52;exact Calls.quiet_of_same (z1x _ _ _ (by omega))))) | (refine wpQuiet_step (fun K hK=>?_);go_simp;split <;> (refine hK _ ?_;clear hK K)))));all_goals (refine wpQuiet_nil ?_;intro _ hw';obtain ⟨nq,hw''⟩:=hw';subst hw''))
       all_goals (go_wp2_with fail)
       all_goals go_roundw
       case rel=>exact ⟨k+1,by omega,by go_num,hb.now (Below.drewN bQ _),HX⟩
       case measure=>simp[intOf];omega
  ·have HX:=hE (HZ.out fun j hj=>HK.out j (by omega));go_wp2_with fail
   go_ret;exact ⟨z0a HX.out.symm,hb.bel⟩
theorem x6s {w w':World} {p:Addr} {u:Value} (h:w.cell? p=some u) (hb:Below w.heap.size w w'):w'.cell? p=some u:=(hb.cell (cell_lt h)).trans h
def SRd (w:World) (v:z1w) (gx:Nat) (x:Stg) (bp op:Nat) (p:Int) (W:World):Prop:=
 W.cell? ⟨w.heap.size,0,none⟩=some (.slice v.A1 v.t.rts.length v.c1)∧W.cell? ⟨w.heap.size,1,none⟩=some (.slice v.A2 v.t.pts.length v.c2)∧W.cell? ⟨w.heap.size,2,none⟩=some (.slice v.A3 v.t.homes.length v.c3)∧W.cell? ⟨w.heap.size,3,none⟩=some (.int .i64 v.t.nsec)∧W.cell? ⟨w.heap.size,4,none⟩=some (.int .i64 v.t.nsig)∧W.cell? ⟨gx,0,none⟩=some (.int .i64 x.el)∧W.cell? ⟨bp,op,none⟩=some (.int .i64 p)∧(Bx w W v∧Blk W gx 78 #[.int .i64 x.el,.int .i64 x.pos])
section
variable {w W W':World} {v:z1w} {gx bp op:Nat} {x:Stg} {p:Int}
theorem SRd.mk (h:Bx w W v) (hg:Blk W gx 78 #[.int .i64 x.el,.int .i64 x.pos]) (hp:W.cell? ⟨bp,op,none⟩=some (.int .i64 p)):SRd w v gx x bp op p W:=⟨h.x0,h.x1,h.x2,h.x3,h.x4,hg.cell 0,hp,h,hg⟩
theorem SRd.all (h:SRd w v gx x bp op p W):Bx w W v∧Blk W gx 78 #[.int .i64 x.el,.int .i64 x.pos]:=h.2.2.2.2.2.2.2
theorem SRd.now (h:SRd w v gx x bp op p W) (hb:Below W.heap.size W W'):SRd w v gx x bp op p W':=SRd.mk (h.all.1.now hb) (h.all.2.now hb) (x6s h.2.2.2.2.2.2.1 hb)
end
theorem x5u (v:z1w) (x:Int) (b:Bool) (hb:decide (x∉v.t.pts)=b) (w:World) (hr:TvR w v):Calls Tryz.prog 60 #[tvA v,.int .i64 x] w fun e w'=>(∃ n:Int,e=.returned (.int .i64 n)∧decide (n < 0)=b)∧Below w.heap.size w w':=(x1s v x w hr).mono fun _ _ ⟨⟨n,h1,h2⟩,h3⟩=>⟨⟨n,h1,by rw[←hb];exact decide_eq_decide.2 h2⟩,h3⟩
theorem j7h {t:Tab} {l:List Stg} {k j:Nat} {x p:Stg} (hk:k=j+1) (h1:l.getD k zG=x) (h2:l.getD j zG=p) (h:x.el≤p.el):stB t l k=false:=by
 subst hk;unfold stB;rw[h1,Nat.add_sub_cancel,h2,dFf (show ¬j+1=0 by omega),dFf (show ¬p.el < x.el by omega)];simp
theorem j0h {t:Tab} {l:List Stg} {k:Nat} {x:Stg} (h1:l.getD k zG=x) (h:x.el∉t.pts):stB t l k=false:=by unfold stB;rw[h1,dFf h];rfl
theorem j0i {t:Tab} {l:List Stg} {k:Nat} {x:Stg} (h1:l.getD k zG=x) (h:x.pos≠1) (h':x.pos≠2):stB t l k=false:=by unfold stB;rw[h1,dFf h,dFf h'];simp
theorem x5q {t:Tab} {l:List Stg} {k:Nat} {x:Stg} (hk:k=0) (h1:l.getD k zG=x) (h:x.el∈t.pts) (h':x.pos=1∨x.pos=2):stB t l k=true:=by
 subst hk;unfold stB;rw[h1,dTt h];rcases h' with h' | h' <;> simp[h']
theorem x5r {t:Tab} {l:List Stg} {k j:Nat} {x p:Stg} (hk:k=j+1) (h1:l.getD k zG=x) (h2:l.getD j zG=p) (h:x.el∈t.pts) (h':x.pos=1∨x.pos=2) (h3:¬x.el≤p.el):stB t l k=true:=by
 subst hk;unfold stB;rw[h1,Nat.add_sub_cancel,h2,dTt h,dTt (show p.el < x.el by omega)];rcases h' with h' | h' <;> simp[h']
theorem z8k (v:z1w) (l:List Stg) (A:Option Addr) (cap:Nat) (w:World) (hr:TvR w v) (hl:RdS z2x w (Lt w) A l) (hn:l.length≤maxLen):Calls Tryz.prog 55 #[tvA v,.slice A l.length cap] w fun e w'=>e=.returned (.bool (y0z v.t l))∧Below w.heap.size w w':=by
 have hbx:=Bx.new hr;unfold maxLen at hn;have HY:Hid (∀ k,k < l.length→stB v.t l k=false→y0z v.t l=false):=hE fun k hk h=>by unfold y0z;rw[y9j hk h]
 have HZ:Hid ((∀ k,k < l.length→stB v.t l k=true)→y0z v.t l=true):=hE fun h=>by unfold y0z;rw[y66 h]
 have HLR:=hE hl;clear hl;unfold tvA;go_enter Tryz.func55,Tryz.ntmps55
 go_wp2_with fail;go_loopw [9] (fun n wr=>∃ k:Nat,k≤l.length∧n=.int .i64 k∧Bx w wr v∧Hid (∀ j,j < k→stB v.t l j=true)) (fun n _=>l.length - (intOf n).toNat)
 case atStart=>exact ⟨0,nZ,rfl,hbx,hE (fun j hj=>absurd hj (Nat.not_lt_zero _))⟩
 case round=>
  obtain ⟨k,hk,rfl,hb,HK⟩:=hrel;clear hbx;by_cases hlt:k < l.length
  ·have hki:(k:Int) < (l.length:Int):=by omega
   have hl:=HLR.out.now hb.bel;obtain ⟨b,off,hA,lb,-,y0,y1⟩:=hl.elG hlt;have hba:=hb.alloc (.cells #[.int .i64 l[k].el,.int .i64 l[k].pos] 78);have hgx:Blk (wr.alloc (.cells #[.int .i64 l[k].el,.int .i64 l[k].pos] 78)) wr.heap.size 78 #[.int .i64 l[k].el,.int .i64 l[k].pos]:=Blk.new _ _ _ _ rfl;have HNO:=hE (HY.out k hlt);have HGQ:=hE (getD_at hlt zG);have hcase:(k=0∧SRd w v wr.heap.size l[k] wr.heap.size 0 l[k].el (wr.alloc (.cells #[.int .i64 l[k].el,.int .i64 l[k].pos] 78)))∨∃ j p,k=j+1∧l.getD j zG=p∧SRd w v wr.heap.size l[k] b (off+(k - 1)*2) p.el (wr.alloc (.cells #[.int .i64 l[k].el,.int .i64 l[k].pos] 78)):=by
    by_cases hk0:k=0
    ·exact Or.inl ⟨hk0,SRd.mk hba hgx (hgx.cell 0)⟩
    ·refine Or.inr ⟨k - 1,l[k - 1],by omega,getD_at (by omega) zG,SRd.mk hba hgx ?_⟩;obtain ⟨b',off',hA',_,-,u0,_⟩:=(HLR.out.now hba.bel).elG (show k - 1 < l.length by omega);obtain ⟨rfl,rfl⟩:b=b'∧off=off':=by rw[hA] at hA';simp only[qE,Addr.mk.injEq] at hA';exact ⟨hA'.1,hA'.2.1⟩
     exact u0
   clear hgx HLR;rw[hA];clear hA hl;generalize l[k]=q at *;rcases hcase with ⟨hk0,hss⟩ | ⟨j,p,hj,hp,hss⟩
   ·have hz0':decide ((0:Int) < (k:Int))=false:=by simp;omega
    have hz0n:decide (0 < k)=false:=by simp;omega
    have HK0:=hE hk0;clear hk0;go_wp2_with fail
    generalize wr.alloc (.cells #[.int .i64 q.el,.int .i64 q.pos] 78)=W0 at *;generalize wr.heap.size=gx at *;clear y0 y1 hb hba lb;have HIX:Hid (∀ (bb:Bool) W,decide (q.el∉v.t.pts)=bb→SRd w v gx q gx 0 q.el W→Calls Tryz.prog 60 #[.agg (z0t v),.int .i64 q.el] W fun e w'=>(∃ n:Int,e=.returned (.int .i64 n)∧decide (n < 0)=bb)∧Below W.heap.size W w'):=hE fun bb W hb h=>x5u v q.el bb hb W h.all.1.rd
    by_cases hin:q.el∈v.t.pts
    ·have HB1:Hid (decide (q.el∉v.t.pts)=false):=hE (by simp[hin]);by_cases hp1:q.pos=1
     ·have HX:=hE (upto_succ HK.out (x5q HK0.out HGQ.out hin (Or.inl hp1)));have t1:(q.pos != 1)=false:=by simp[hp1]
      clear HNO HGQ HK hin hp1;refine rgH 20 (S:=(fun w'=>w'.cell? ⟨w.heap.size,0,none⟩=some (.slice v.A1 v.t.rts.length v.c1)∧w'.cell? ⟨w.heap.size,1,none⟩=some (.slice v.A2 v.t.pts.length v.c2)∧w'.cell? ⟨w.heap.size,2,none⟩=some (.slice v.A3 v.t.homes.length v.c3)∧w'.cell? ⟨w.heap.size,3,none⟩=some (.int .i64 v.t.nsec)∧w'.cell? ⟨w.heap.size,4,none⟩=some (.int .i64 v.t.nsig)∧w'.cell? ⟨gx,0,none⟩=some (.int .i64 q.el)∧w'.cell? ⟨gx,0,none⟩=some (.int .i64 q.el)∧(Bx w w' v∧Blk w' gx 78 #[.int .i64 q.el,.int .i64 q.pos]))) (hss.now bQ.drew) fun hHeld=>?_
      refine tkM 17 [0,1,2,3,4,5,6,7,8,9,10,11,12,13,14,15,16] ?_;refine rd1 17 rfl fun K hK=>?_
      go_simp;go_at_call 60
      refine (HIX.out false _ HB1.out hHeld).mono ?_;rintro e wq ⟨⟨n,rfl,hn⟩,hq⟩;have hq0:SRd w v gx q gx 0 q.el wq:=SRd.now hHeld hq;go_wp2_with fail
      refine hK.out _ _ hq0 (fun hHeld=>?_);clear hK K;try simp only[Act.put,lsa,lsz,lss]
      refine tkM 2 [18,19] ?_;refine wdn ?_;have hbz:=SRd.all hHeld;have z1:=hbz.2.cell 1;simp only[gqA,gqZ,gqS] at z1;go_wp2_with fail
      go_roundw
      case rel=>exact ⟨k+1,by omega,by go_num,hbz.1,HX⟩
      case measure=>simp[intOf];omega
     ·
      by_cases hp2:q.pos=2
      ·have HX:=hE (upto_succ HK.out (x5q HK0.out HGQ.out hin (Or.inr hp2)));have t1:(q.pos != 1)=true:=by simp[hp1]
       have t2:(q.pos != 2)=false:=by simp[hp2]
       clear HNO HGQ HK hin hp1 hp2;refine rgH 20 (S:=(fun w'=>w'.cell? ⟨w.heap.size,0,none⟩=some (.slice v.A1 v.t.rts.length v.c1)∧w'.cell? ⟨w.heap.size,1,none⟩=some (.slice v.A2 v.t.pts.length v.c2)∧w'.cell? ⟨w.heap.size,2,none⟩=some (.slice v.A3 v.t.homes.length v.c3)∧w'.cell? ⟨w.heap.size,3,none⟩=some (.int .i64 v.t.nsec)∧w'.cell? ⟨w.heap.size,4,none⟩=some (.int .i64 v.t.nsig)∧w'.cell? ⟨gx,0,none⟩=some (.int .i64 q.el)∧w'.cell? ⟨gx,0,none⟩=some (.int .i64 q.el)∧(Bx w w' v∧Blk w' gx 78 #[.int .i64 q.el,.int .i64 q.pos]))) (hss.now bQ.drew) fun hHeld=>?_
       refine tkM 17 [0,1,2,3,4,5,6,7,8,9,10,11,12,13,14,15,16] ?_;refine rd1 17 rfl fun K hK=>?_
       go_simp;go_at_call 60
       refine (HIX.out false _ HB1.out hHeld).mono ?_;rintro e wq ⟨⟨n,rfl,hn⟩,hq⟩;have hq0:SRd w v gx q gx 0 q.el wq:=SRd.now hHeld hq;go_wp2_with fail
       refine hK.out _ _ hq0 (fun hHeld=>?_);clear hK K;try simp only[Act.put,lsa,lsz,lss]
       refine tkM 2 [18,19] ?_;refine wdn ?_;have hbz:=SRd.all hHeld;have z1:=hbz.2.cell 1;simp only[gqA,gqZ,gqS] at z1;go_wp2_with fail
       go_roundw
       case rel=>exact ⟨k+1,by omega,by go_num,hbz.1,HX⟩
       case measure=>simp[intOf];omega
      ·have HX:=hE (HNO.out (j0i HGQ.out hp1 hp2));have t1:(q.pos != 1)=true:=by simp[hp1]
       have t2:(q.pos != 2)=true:=by simp[hp2]
       clear HNO HGQ HK hin hp1 hp2;refine rgH 20 (S:=(fun w'=>w'.cell? ⟨w.heap.size,0,none⟩=some (.slice v.A1 v.t.rts.length v.c1)∧w'.cell? ⟨w.heap.size,1,none⟩=some (.slice v.A2 v.t.pts.length v.c2)∧w'.cell? ⟨w.heap.size,2,none⟩=some (.slice v.A3 v.t.homes.length v.c3)∧w'.cell? ⟨w.heap.size,3,none⟩=some (.int .i64 v.t.nsec)∧w'.cell? ⟨w.heap.size,4,none⟩=some (.int .i64 v.t.nsig)∧w'.cell? ⟨gx,0,none⟩=some (.int .i64 q.el)∧w'.cell? ⟨gx,0,none⟩=some (.int .i64 q.el)∧(Bx w w' v∧Blk w' gx 78 #[.int .i64 q.el,.int .i64 q.pos]))) (hss.now bQ.drew) fun hHeld=>?_
       refine tkM 17 [0,1,2,3,4,5,6,7,8,9,10,11,12,13,14,15,16] ?_;refine rd1 17 rfl fun K hK=>?_
       go_simp;go_at_call 60
       refine (HIX.out false _ HB1.out hHeld).mono ?_;rintro e wq ⟨⟨n,rfl,hn⟩,hq⟩;have hq0:SRd w v gx q gx 0 q.el wq:=SRd.now hHeld hq;go_wp2_with fail
       refine hK.out _ _ hq0 (fun hHeld=>?_);clear hK K;try simp only[Act.put,lsa,lsz,lss]
       refine tkM 2 [18,19] ?_;refine wdn ?_;have hbz:=SRd.all hHeld;have z1:=hbz.2.cell 1;simp only[gqA,gqZ,gqS] at z1;go_wp2_with fail
       go_ret;exact ⟨z0a HX.out.symm,hbz.1.bel⟩
    ·have HB1:Hid (decide (q.el∉v.t.pts)=true):=hE (by simp[hin]);have HX:=hE (HNO.out (j0h HGQ.out hin));clear HNO HGQ HK hin;refine rgH 20 (S:=(fun w'=>w'.cell? ⟨w.heap.size,0,none⟩=some (.slice v.A1 v.t.rts.length v.c1)∧w'.cell? ⟨w.heap.size,1,none⟩=some (.slice v.A2 v.t.pts.length v.c2)∧w'.cell? ⟨w.heap.size,2,none⟩=some (.slice v.A3 v.t.homes.length v.c3)∧w'.cell? ⟨w.heap.size,3,none⟩=some (.int .i64 v.t.nsec)∧w'.cell? ⟨w.heap.size,4,none⟩=some (.int .i64 v.t.nsig)∧w'.cell? ⟨gx,0,none⟩=some (.int .i64 q.el)∧w'.cell? ⟨gx,0,none⟩=some (.int .i64 q.el)∧(Bx w w' v∧Blk w' gx 78 #[.int .i64 q.el,.int .i64 q.pos]))) (hss.now bQ.drew) fun hHeld=>?_
     refine tkM 17 [0,1,2,3,4,5,6,7,8,9,10,11,12,13,14,15,16] ?_;refine rd1 17 rfl fun K hK=>?_
     go_simp;go_at_call 60
     refine (HIX.out true _ HB1.out hHeld).mono ?_;rintro e wq ⟨⟨n,rfl,hn⟩,hq⟩;have hq0:SRd w v gx q gx 0 q.el wq:=SRd.now hHeld hq;go_wp2_with fail
     refine hK.out _ _ hq0 (fun hHeld=>?_);clear hK K;try simp only[Act.put,lsa,lsz,lss]
     refine tkM 2 [18,19] ?_;refine wdn ?_;have hbz:=SRd.all hHeld;go_wp2_with fail
     go_ret;exact ⟨z0a HX.out.symm,hbz.1.bel⟩
   ·have hz0':decide ((0:Int) < (k:Int))=true:=by simp;omega
    have hz0n:decide (0 < k)=true:=by simp;omega
    have hwk:IntKind.i64.wrap ((k:Int) - 1)=(k:Int) - 1:=IntWalk.i64_in _ (by omega);have hzp:(0:Int) < (k:Int):=by omega
    have hz1:(1:Int)≤(k:Int):=by omega
    have hz2:1≤k:=by omega
    have hz3:0 < k:=by omega
    have hz4:(0:Int)≤(k:Int) - 1:=by omega
    have hkm:(k:Int) - 1 < (l.length:Int):=by omega
    have hkt:((k:Int) - 1).toNat=k - 1:=by omega
    have HJ:=hE hj;have HGP:=hE hp;clear hj hp;go_wp2_with fail
    generalize wr.alloc (.cells #[.int .i64 q.el,.int .i64 q.pos] 78)=W0 at *;generalize wr.heap.size=gx at *;clear y0 y1 hb hba lb;by_cases hle:q.el≤p.el
    ·have hled:decide (q.el≤p.el)=true:=by simpa using hle
     have HX:=hE (HNO.out (j7h HJ.out HGQ.out HGP.out hle));clear HNO HGQ HGP HK hle;refine rgH 20 (S:=(fun w'=>w'.cell? ⟨w.heap.size,0,none⟩=some (.slice v.A1 v.t.rts.length v.c1)∧w'.cell? ⟨w.heap.size,1,none⟩=some (.slice v.A2 v.t.pts.length v.c2)∧w'.cell? ⟨w.heap.size,2,none⟩=some (.slice v.A3 v.t.homes.length v.c3)∧w'.cell? ⟨w.heap.size,3,none⟩=some (.int .i64 v.t.nsec)∧w'.cell? ⟨w.heap.size,4,none⟩=some (.int .i64 v.t.nsig)∧w'.cell? ⟨gx,0,none⟩=some (.int .i64 q.el)∧w'.cell? ⟨b,off+(k - 1)*2,none⟩=some (.int .i64 p.el)∧(Bx w w' v∧Blk w' gx 78 #[.int .i64 q.el,.int .i64 q.pos]))) (hss.now bQ.drew) fun hHeld=>?_
     refine tkM 20 [0,1,2,3,4,5,6,7,8,9,10,11,12,13,14,15,16,17,18,19] ?_;refine wdn ?_;have hbz:=SRd.all (gx:=gx) (x:=q) (p:=p.el) (bp:=b) (op:=off+(k - 1)*2) hHeld;go_wp2_with fail
     go_ret;exact ⟨z0a HX.out.symm,hbz.1.bel⟩
    have hled:decide (q.el≤p.el)=false:=by simpa using hle
    have HLE:=hE hle;clear hle;have HIX:Hid (∀ (bb:Bool) W,decide (q.el∉v.t.pts)=bb→SRd w v gx q b (off+(k - 1)*2) p.el W→Calls Tryz.prog 60 #[.agg (z0t v),.int .i64 q.el] W fun e w'=>(∃ n:Int,e=.returned (.int .i64 n)∧decide (n < 0)=bb)∧Below W.heap.size W w'):=hE fun bb W hb h=>x5u v q.el bb hb W h.all.1.rd
    by_cases hin:q.el∈v.t.pts
    ·have HB1:Hid (decide (q.el∉v.t.pts)=false):=hE (by simp[hin]);by_cases hp1:q.pos=1
     ·have HX:=hE (upto_succ HK.out (x5r HJ.out HGQ.out HGP.out hin (Or.inl hp1) HLE.out));have t1:(q.pos != 1)=false:=by simp[hp1]
      clear HNO HGQ HK hin hp1;refine rgH 20 (S:=(fun w'=>w'.cell? ⟨w.heap.size,0,none⟩=some (.slice v.A1 v.t.rts.length v.c1)∧w'.cell? ⟨w.heap.size,1,none⟩=some (.slice v.A2 v.t.pts.length v.c2)∧w'.cell? ⟨w.heap.size,2,none⟩=some (.slice v.A3 v.t.homes.length v.c3)∧w'.cell? ⟨w.heap.size,3,none⟩=some (.int .i64 v.t.nsec)∧w'.cell? ⟨w.heap.size,4,none⟩=some (.int .i64 v.t.nsig)∧w'.cell? ⟨gx,0,none⟩=some (.int .i64 q.el)∧w'.cell? ⟨b,off+(k - 1)*2,none⟩=some (.int .i64 p.el)∧(Bx w w' v∧Blk w' gx 78 #[.int .i64 q.el,.int .i64 q.pos]))) (hss.now bQ.drew) fun hHeld=>?_
      refine tkM 17 [0,1,2,3,4,5,6,7,8,9,10,11,12,13,14,15,16] ?_;refine rd1 17 rfl fun K hK=>?_
      go_simp;go_at_call 60
      refine (HIX.out false _ HB1.out hHeld).mono ?_;rintro e wq ⟨⟨n,rfl,hn⟩,hq⟩;have hq0:SRd w v gx q b (off+(k - 1)*2) p.el wq:=SRd.now hHeld hq;go_wp2_with fail
      refine hK.out _ _ hq0 (fun hHeld=>?_);clear hK K;try simp only[Act.put,lsa,lsz,lss]
      refine tkM 2 [18,19] ?_;refine wdn ?_;have hbz:=SRd.all hHeld;have z1:=hbz.2.cell 1;simp only[gqA,gqZ,gqS] at z1;go_wp2_with fail
      go_roundw
      case rel=>exact ⟨k+1,by omega,by go_num,hbz.1,HX⟩
      case measure=>simp[intOf];omega
     ·
      by_cases hp2:q.pos=2
      ·have HX:=hE (upto_succ HK.out (x5r HJ.out HGQ.out HGP.out hin (Or.inr hp2) HLE.out));have t1:(q.pos != 1)=true:=by simp[hp1]
       have t2:(q.pos != 2)=false:=by simp[hp2]
       clear HNO HGQ HK hin hp1 hp2;refine rgH 20 (S:=(fun w'=>w'.cell? ⟨w.heap.size,0,none⟩=some (.slice v.A1 v.t.rts.length v.c1)∧w'.cell? ⟨w.heap.size,1,none⟩=some (.slice v.A2 v.t.pts.length v.c2)∧w'.cell? ⟨w.heap.size,2,none⟩=some (.slice v.A3 v.t.homes.length v.c3)∧w'.cell? ⟨w.heap.size,3,none⟩=some (.int .i64 v.t.nsec)∧w'.cell? ⟨w.heap.size,4,none⟩=some (.int .i64 v.t.nsig)∧w'.cell? ⟨gx,0,none⟩=some (.int .i64 q.el)∧w'.cell? ⟨b,off+(k - 1)*2,none⟩=some (.int .i64 p.el)∧(Bx w w' v∧Blk w' gx 78 #[.int .i64 q.el,.int .i64 q.pos]))) (hss.now bQ.drew) fun hHeld=>?_
       refine tkM 17 [0,1,2,3,4,5,6,7,8,9,10,11,12,13,14,15,16] ?_;refine rd1 17 rfl fun K hK=>?_
       go_simp;go_at_call 60
       refine (HIX.out false _ HB1.out hHeld).mono ?_;rintro e wq ⟨⟨n,rfl,hn⟩,hq⟩;have hq0:SRd w v gx q b (off+(k - 1)*2) p.el wq:=SRd.now hHeld hq;go_wp2_with fail
       refine hK.out _ _ hq0 (fun hHeld=>?_);clear hK K;try simp only[Act.put,lsa,lsz,lss]
       refine tkM 2 [18,19] ?_;refine wdn ?_;have hbz:=SRd.all hHeld;have z1:=hbz.2.cell 1;simp only[gqA,gqZ,gqS] at z1;go_wp2_with fail
       go_roundw
       case rel=>exact ⟨k+1,by omega,by go_num,hbz.1,HX⟩
       case measure=>simp[intOf];omega
      ·have HX:=hE (HNO.out (j0i HGQ.out hp1 hp2));have t1:(q.pos != 1)=true:=by simp[hp1]
       have t2:(q.pos != 2)=true:=by simp[hp2]
       clear HNO HGQ HK hin hp1 hp2;refine rgH 20 (S:=(fun w'=>w'.cell? ⟨w.heap.size,0,none⟩=some (.slice v.A1 v.t.rts.length v.c1)∧w'.cell? ⟨w.heap.size,1,none⟩=some (.slice v.A2 v.t.pts.length v.c2)∧w'.cell? ⟨w.heap.size,2,none⟩=some (.slice v.A3 v.t.homes.length v.c3)∧w'.cell? ⟨w.heap.size,3,none⟩=some (.int .i64 v.t.nsec)∧w'.cell? ⟨w.heap.size,4,none⟩=some (.int .i64 v.t.nsig)∧w'.cell? ⟨gx,0,none⟩=some (.int .i64 q.el)∧w'.cell? ⟨b,off+(k - 1)*2,none⟩=some (.int .i64 p.el)∧(Bx w w' v∧Blk w' gx 78 #[.int .i64 q.el,.int .i64 q.pos]))) (hss.now bQ.drew) fun hHeld=>?_
       refine tkM 17 [0,1,2,3,4,5,6,7,8,9,10,11,12,13,14,15,16] ?_;refine rd1 17 rfl fun K hK=>?_
       go_simp;go_at_call 60
       refine (HIX.out false _ HB1.out hHeld).mono ?_;rintro e wq ⟨⟨n,rfl,hn⟩,hq⟩;have hq0:SRd w v gx q b (off+(k - 1)*2) p.el wq:=SRd.now hHeld hq;go_wp2_with fail
       refine hK.out _ _ hq0 (fun hHeld=>?_);clear hK K;try simp only[Act.put,lsa,lsz,lss]
       refine tkM 2 [18,19] ?_;refine wdn ?_;have hbz:=SRd.all hHeld;have z1:=hbz.2.cell 1;simp only[gqA,gqZ,gqS] at z1;go_wp2_with fail
       go_ret;exact ⟨z0a HX.out.symm,hbz.1.bel⟩
    ·have HB1:Hid (decide (q.el∉v.t.pts)=true):=hE (by simp[hin]);have HX:=hE (HNO.out (j0h HGQ.out hin));clear HNO HGQ HK hin;refine rgH 20 (S:=(fun w'=>w'.cell? ⟨w.heap.size,0,none⟩=some (.slice v.A1 v.t.rts.length v.c1)∧w'.cell? ⟨w.heap.size,1,none⟩=some (.slice v.A2 v.t.pts.length v.c2)∧w'.cell? ⟨w.heap.size,2,none⟩=some (.slice v.A3 v.t.homes.length v.c3)∧w'.cell? ⟨w.heap.size,3,none⟩=some (.int .i64 v.t.nsec)∧w'.cell? ⟨w.heap.size,4,none⟩=some (.int .i64 v.t.nsig)∧w'.cell? ⟨gx,0,none⟩=some (.int .i64 q.el)∧w'.cell? ⟨b,off+(k - 1)*2,none⟩=some (.int .i64 p.el)∧(Bx w w' v∧Blk w' gx 78 #[.int .i64 q.el,.int .i64 q.pos]))) (hss.now bQ.drew) fun hHeld=>?_
     refine tkM 17 [0,1,2,3,4,5,6,7,8,9,10,11,12,13,14,15,16] ?_;refine rd1 17 rfl fun K hK=>?_
     go_simp;go_at_call 60
     refine (HIX.out true _ HB1.out hHeld).mono ?_;rintro e wq ⟨⟨n,rfl,hn⟩,hq⟩;have hq0:SRd w v gx q b (off+(k - 1)*2) p.el wq:=SRd.now hHeld hq;go_wp2_with fail
     refine hK.out _ _ hq0 (fun hHeld=>?_);clear hK K;try simp only[Act.put,lsa,lsz,lss]
     refine tkM 2 [18,19] ?_;refine wdn ?_;have hbz:=SRd.all hHeld;go_wp2_with fail
     go_ret;exact ⟨z0a HX.out.symm,hbz.1.bel⟩
  ·have HX:=hE (HZ.out fun j hj=>HK.out j (by omega));go_wp2_with fail
   go_ret;exact ⟨z0a HX.out.symm,hb.bel⟩
end Go.Proofs.YtpenlfedkacglaaGreatDoor
namespace Go.Proofs
open Go.Shelf
theorem Tryz.fy {α:Type _} {a:Option α} {b c:α} (h:a=some b) (k:b=c:=by kernel_rfl):a=some c:=h.trans (congrArg some k)
def Tryz.y7e:Go.Shelf.Ren:=⟨fun | 122=>42 | 215=>90 | n=>n,fun | 3=>3 | 4=>4 | n=>n,fun | n=>n⟩
theorem Tryz.lays122:Go.Proofs.Lays.n122 Tryz.prog Tryz.y7e:={
 mixed:=by kernel_rfl,f122:=fy func42,f215:=fy func90,t3:=underlying3,a3:=isAgg3,z3:=sizeOf3,v3:=zeroValue3,t4:=underlying4,a4:=isAgg4,z4:=sizeOf4,v4:=zeroValue4 }
open Go.RowKit in
theorem Tryz.cmp_Compare_int (x y:Int) (w:World) :
 Calls Tryz.prog 42 #[.int .i64 x,.int .i64 y] w fun e w'=>e=.returned (.int .i64 (Lib.compareInt x y))∧w' = w:=Any.cmp_Compare_int Tryz.lays122 x y w
def Tryz.y5h:Go.Shelf.Ren:=⟨fun | 171=>82 | 243=>122 | 246=>151 | 283=>164 | 284=>165 | 285=>166 | 286=>167 | 129=>135 | 317=>171 | 318=>172 | 319=>173 | 320=>174 | 337=>176 | 338=>177 | n=>n,fun | 3=>3 | 9=>9 | 2=>2 | 4=>4 | 171=>232 | 0=>0 | 53=>206 | 37=>234 | 5=>5 | 173=>235 | 212=>243 | 51=>204 | 20=>20 | 213=>244 | 46=>154 | 232=>246 | 233=>247 | n=>n,fun | 17=>2 | 18=>3 | 19=>4 | n=>n⟩
theorem Tryz.laysM171:Go.Proofs.LaysM.n171 Tryz.prog Tryz.y5h:={
 mixed:=by kernel_rfl,f129:=fy func135,f171:=fy func82,f243:=fy func122,f246:=fy func151,f283:=fy func164,f284:=fy func165,f285:=fy func166,f286:=fy func167,f317:=fy func171,f318:=fy func172,f319:=fy func173,f320:=fy func174,f337:=fy func176,f338:=fy func177,t0:=underlying0,a0:=isAgg0,z0:=sizeOf0,v0:=zeroValue0,t2:=underlying2,a2:=isAgg2,z2:=sizeOf2,v2:=zeroValue2,t3:=underlying3,a3:=isAgg3,z3:=sizeOf3,v3:=zeroValue3,t4:=underlying4,a4:=isAgg4,z4:=sizeOf4,v4:=zeroValue4,t5:=underlying5,a5:=isAgg5,z5:=sizeOf5,v5:=zeroValue5,t9:=underlying9,a9:=isAgg9,z9:=sizeOf9,v9:=zeroValue9,t20:=underlying20,a20:=isAgg20,z20:=sizeOf20,v20:=zeroValue20,t37:=underlying234,a37:=isAgg234,z37:=sizeOf234,v37:=zeroValue234,t46:=underlying154,a46:=isAgg154,z46:=sizeOf154,v46:=zeroValue154,t51:=underlying204,a51:=isAgg204,z51:=sizeOf204,v51:=zeroValue204,t53:=underlying206,a53:=isAgg206,z53:=sizeOf206,v53:=zeroValue206,t171:=underlying232,a171:=isAgg232,z171:=sizeOf232,v171:=zeroValue232,t173:=underlying235,a173:=isAgg235,z173:=sizeOf235,v173:=zeroValue235,t212:=underlying243,a212:=isAgg243,z212:=sizeOf243,v212:=zeroValue243,t213:=underlying244,a213:=isAgg244,z213:=sizeOf244,t232:=underlying246,a232:=isAgg246,z232:=sizeOf246,v232:=zeroValue246,t233:=underlying247,a233:=isAgg247,z233:=sizeOf247,v233:=zeroValue247,g17:=by kernel_rfl,g18:=by kernel_rfl,g19:=by kernel_rfl,i0:=by kernel_rfl,i2:=by kernel_rfl,i3:=by kernel_rfl,i4:=by kernel_rfl,i5:=by kernel_rfl,i9:=by kernel_rfl,i20:=by kernel_rfl,i37:=by kernel_rfl,i46:=by kernel_rfl,i51:=by kernel_rfl,i53:=by kernel_rfl,i171:=by kernel_rfl,i173:=by kernel_rfl,i212:=by kernel_rfl,i232:=by kernel_rfl,i233:=by kernel_rfl,m17:=by kernel_rfl,m18:=by kernel_rfl,m19:=by kernel_rfl }
open Go.RowKit Go.Sort Go.Lib in
theorem Tryz.strconv_Itoa (n:Int) (h0:-9223372036854775808≤n) (h1:n≤9223372036854775807) (w:World) (htab:Lib.TabIs Tryz.prog w "internal/strconv.uint64pow10" .u64 Lib.pow10Tab) :
 Calls Tryz.prog 82 #[.int .i64 n] w fun e w'=>e=.returned (.string ⟨(Lib.itoa n).toArray⟩)∧∃ k os,w' = grow (w.drewN k) os:=Any.strconv_Itoa Tryz.laysM171 n h0 h1 w htab
def Tryz.y7f:Go.Shelf.Ren:=⟨fun | 189=>44 | 125=>89 | 257=>91 | 128=>134 | 129=>135 | 294=>136 | 295=>137 | 296=>138 | 297=>139 | 298=>140 | 299=>141 | 216=>142 | 300=>143 | 301=>144 | 328=>159 | 329=>155 | 330=>156 | 331=>160 | 332=>161 | 215=>90 | 343=>170 | n=>n,fun | 28=>31 | 3=>3 | 46=>154 | 0=>0 | 51=>204 | 53=>206 | 4=>4 | 183=>198 | 182=>197 | 131=>147 | 5=>5 | 9=>9 | 218=>223 | 222=>227 | 228=>238 | 229=>239 | n=>n,fun | n=>n⟩
theorem Tryz.lays189:Go.Proofs.Lays.n189 Tryz.prog Tryz.y7f:={
 mixed:=by kernel_rfl,f125:=fy func89,f128:=fy func134,f129:=fy func135,f189:=fy func44,f215:=fy func90,f216:=fy func142,f257:=fy func91,f294:=fy func136,f295:=fy func137,f296:=fy func138,f297:=fy func139,f298:=fy func140,f299:=fy func141,f300:=fy func143,f301:=fy func144,f328:=fy func159,f329:=fy func155,f330:=fy func156,f331:=fy func160,f332:=fy func161,f343:=fy func170,t0:=underlying0,a0:=isAgg0,z0:=sizeOf0,v0:=zeroValue0,t3:=underlying3,a3:=isAgg3,z3:=sizeOf3,v3:=zeroValue3,t4:=underlying4,a4:=isAgg4,z4:=sizeOf4,v4:=zeroValue4,t5:=underlying5,a5:=isAgg5,z5:=sizeOf5,v5:=zeroValue5,t9:=underlying9,a9:=isAgg9,z9:=sizeOf9,v9:=zeroValue9,t28:=underlying31,a28:=isAgg31,z28:=sizeOf31,v28:=zeroValue31,t46:=underlying154,a46:=isAgg154,z46:=sizeOf154,v46:=zeroValue154,t51:=underlying204,a51:=isAgg204,z51:=sizeOf204,v51:=zeroValue204,t53:=underlying206,a53:=isAgg206,z53:=sizeOf206,v53:=zeroValue206,t131:=underlying147,a131:=isAgg147,z131:=sizeOf147,v131:=zeroValue147,t182:=underlying197,a182:=isAgg197,z182:=sizeOf197,v182:=zeroValue197,t183:=underlying198,a183:=isAgg198,z183:=sizeOf198,v183:=zeroValue198,t218:=underlying223,a218:=isAgg223,z218:=sizeOf223,v218:=zeroValue223,t222:=underlying227,a222:=isAgg227,z222:=sizeOf227,v222:=zeroValue227,t228:=underlying238,a228:=isAgg238,z228:=sizeOf238,v228:=zeroValue238,t229:=underlying239,a229:=isAgg239,z229:=sizeOf239,v229:=zeroValue239 }
open Go.Sort Go.RowKit in
theorem Tryz.slices_Sort_int (blk off cap:Nat) (zs:List Int) (w:World) (hH:Holds (Value.int .i64) w blk off zs.toArray) (hblk:blk < w.heap.size) (hsz:zs.length < 4611686018427387904) :
 Calls Tryz.prog 44 #[.slice (some ⟨blk,off,none⟩) zs.length cap] w fun e w'=>
  e=.returned (.tuple #[])∧∃ n os,w' = grow (putRow (Value.int .i64) (Sort.ahead w n) blk off (zs.mergeSort fun x y=>decide (x≤y)).toArray) os:=Any.slices_Sort_int Tryz.lays189 blk off cap zs w hH hblk hsz
def Tryz.lays108_ren:Go.Shelf.Ren:=⟨fun | 108=>107 | n=>n,fun | 28=>31 | 3=>3 | 0=>0 | 4=>4 | n=>n,fun | n=>n⟩
theorem Tryz.lays108:Go.Proofs.Lays.n108 Tryz.prog Tryz.lays108_ren:={
 mixed:=by kernel_rfl,f108:=fy func107,t0:=underlying0,a0:=isAgg0,z0:=sizeOf0,v0:=zeroValue0,t3:=underlying3,a3:=isAgg3,z3:=sizeOf3,v3:=zeroValue3,t4:=underlying4,a4:=isAgg4,z4:=sizeOf4,v4:=zeroValue4,t28:=underlying31,a28:=isAgg31,z28:=sizeOf31,v28:=zeroValue31 }
open Go.Lib in
theorem Tryz.slices_Index_int (b off n c:Nat) (zs:List Int) (x:Int) (w:World) (hz:n≤zs.length) (hbig:n≤9223372036854775807) (hc:∀ j,j < zs.length→w.cell? ⟨b,off+j,none⟩=some (.int .i64 (zs.getD j 0))) :
 Calls Tryz.prog 107 #[.slice (some ⟨b,off,none⟩) n c,.int .i64 x] w fun e w'=>e=.returned (.int .i64 (Lib.idxOf (zs.take n) x))∧w' = w:=Any.slices_Index_int Tryz.lays108 b off n c zs x w hz hbig hc
def Tryz.lays107_ren:Go.Shelf.Ren:=⟨fun | 107=>63 | 108=>107 | n=>n,fun | 28=>31 | 3=>3 | 4=>4 | 0=>0 | n=>n,fun | n=>n⟩
theorem Tryz.lays107:Go.Proofs.Lays.n107 Tryz.prog Tryz.lays107_ren:={
 mixed:=by kernel_rfl,f107:=fy func63,f108:=fy func107,t0:=underlying0,a0:=isAgg0,z0:=sizeOf0,v0:=zeroValue0,t3:=underlying3,a3:=isAgg3,z3:=sizeOf3,v3:=zeroValue3,t4:=underlying4,a4:=isAgg4,z4:=sizeOf4,v4:=zeroValue4,t28:=underlying31,a28:=isAgg31,z28:=sizeOf31,v28:=zeroValue31 }
open Go.Lib in
theorem Tryz.slices_Contains_int (b off n c:Nat) (zs:List Int) (x:Int) (w:World) (hz:n≤zs.length) (hbig:n≤9223372036854775807) (hc:∀ j,j < zs.length→w.cell? ⟨b,off+j,none⟩=some (.int .i64 (zs.getD j 0))) :
 Calls Tryz.prog 63 #[.slice (some ⟨b,off,none⟩) n c,.int .i64 x] w fun e w'=>e=.returned (.bool ((zs.take n).contains x))∧w' = w:=Any.slices_Contains_int Tryz.lays107 b off n c zs x w hz hbig hc
open Go.Lib in
theorem Tryz.slices_Contains_int_empty (a:Option Addr) (c:Nat) (x:Int) (w:World) :
 Calls Tryz.prog 63 #[.slice a 0 c,.int .i64 x] w fun e w'=>e=.returned (.bool false)∧w' = w:=Any.slices_Contains_int_empty Tryz.lays107 a c x w
def Tryz.y3v:Go.Shelf.Ren:=⟨fun | 15=>24 | n=>n,fun | 22=>31 | 3=>3 | 4=>4 | n=>n,fun | n=>n⟩
theorem Tryz.laysNm215:Go.Proofs.Lays2.n15 Tryz.prog Tryz.y3v:={
 mixed:=by kernel_rfl,f15:=fy func24,t3:=underlying3,a3:=isAgg3,z3:=sizeOf3,v3:=zeroValue3,t4:=underlying4,a4:=isAgg4,z4:=sizeOf4,v4:=zeroValue4,t22:=underlying31,a22:=isAgg31,z22:=sizeOf31,v22:=zeroValue31,i3:=by kernel_rfl }
open Go.RowKit Go.Lib in
theorem Tryz.slices_Clone_int (b off n c:Nat) (zs:List Int) (w:World) (hz:n≤zs.length) (hbig:n*8≤140737488355328) (hc:∀ j,j < zs.length→w.cell? ⟨b,off+j,none⟩=some (.int .i64 (zs.getD j 0))) :
 Calls Tryz.prog 24 #[.slice (some ⟨b,off,none⟩) n c] w fun e w'=>∃ v',e=.returned v'∧w'.ownsRow w.heap.size 3 1 v' n ((zs.take n).map (Value.int .i64))∧v'≠.slice none 0 0∧Below w.heap.size w w':=Any.slices_Clone_int Tryz.laysNm215 b off n c zs w hz hbig hc
open Go.RowKit Go.Lib in
theorem Tryz.slices_Clone_int_nil (n c:Nat) (w:World) :
 Calls Tryz.prog 24 #[.slice none n c] w fun e w'=>e=.returned (.slice none 0 0)∧w' = w:=Any.slices_Clone_int_nil Tryz.laysNm215 n c w
def Tryz.y3w:Go.Shelf.Ren:=⟨fun | 20=>45 | n=>n,fun | 22=>31 | 3=>3 | 4=>4 | 0=>0 | n=>n,fun | n=>n⟩
theorem Tryz.laysNm220:Go.Proofs.Lays2.n20 Tryz.prog Tryz.y3w:={
 mixed:=by kernel_rfl,f20:=fy func45,t0:=underlying0,a0:=isAgg0,z0:=sizeOf0,v0:=zeroValue0,t3:=underlying3,a3:=isAgg3,z3:=sizeOf3,v3:=zeroValue3,t4:=underlying4,a4:=isAgg4,z4:=sizeOf4,v4:=zeroValue4,t22:=underlying31,a22:=isAgg31,z22:=sizeOf31,v22:=zeroValue31,i3:=by kernel_rfl }
open Go.RowKit Go.Lib Go.Sort in
theorem Tryz.slices_Compact_int (blk off cap:Nat) (zs:List Int) (w:World) (hH:Holds (Value.int .i64) w blk off zs.toArray) (hsz:zs.length≤9223372036854775807) (hcap:zs.length≤cap) :
 Calls Tryz.prog 45 #[.slice (some ⟨blk,off,none⟩) zs.length cap] w fun e w'=>e=.returned (.slice (some ⟨blk,off,none⟩) (Lib.compact zs).length cap)∧∃ q,w' = putRow (Value.int .i64) (Sort.ahead w q) blk off (Lib.compact zs++List.replicate (zs.length - (Lib.compact zs).length) 0).toArray:=Any.slices_Compact_int Tryz.laysNm220 blk off cap zs w hH hsz hcap
open Go.RowKit Go.Lib Go.Sort in
theorem Tryz.slices_Compact_int_empty (a:Option Addr) (cap:Nat) (w:World) :
 Calls Tryz.prog 45 #[.slice a 0 cap] w fun e w'=>e=.returned (.slice a 0 cap)∧w' = w:=Any.slices_Compact_int_empty Tryz.laysNm220 a cap w
open Go.RowKit Go.Sort in
theorem Tryz.slices_Sort_int_none (p:Option Addr) (cap:Nat) (w:World) :
 Calls Tryz.prog 44 #[.slice p 0 cap] w fun e w'=>e=.returned (.tuple #[])∧w' = w:=Any.slices_Sort_int_none Tryz.lays189 p cap w
def Tryz.z8f:Go.Shelf.Ren:=⟨fun | 8=>108 | 6=>149 | n=>n,fun | 22=>31 | 23=>3 | 25=>155 | 4=>4 | 3=>3 | 0=>0 | n=>n,fun | n=>n⟩
theorem Tryz.laysSlH8_f108:Go.Proofs.SlLaysH.n8 Tryz.prog Tryz.z8f:={
 mixed:=by kernel_rfl,f6:=⟨Tryz.f149.name,by decide,fy func149⟩,f8:=⟨Tryz.f108.name,by decide,fy func108⟩,t0:=underlying0,a0:=isAgg0,z0:=sizeOf0,v0:=zeroValue0,t3:=underlying3,a3:=isAgg3,z3:=sizeOf3,v3:=zeroValue3,t4:=underlying4,a4:=isAgg4,z4:=sizeOf4,v4:=zeroValue4,t22:=underlying31,a22:=isAgg31,z22:=sizeOf31,v22:=zeroValue31,a23:=isAgg3,z23:=sizeOf3,t25:=underlying155,a25:=isAgg155,z25:=sizeOf155,v25:=zeroValue155 }
open Go.RowKit Go.Lib in
theorem Tryz.slices_ContainsFunc {α:Type} [Inhabited α] (enc:α→Value) (p:α→Bool) (g:Nat) (lb:Array Value) (eg:∀ args w,(callFunc g args).run Tryz.prog w=.ok (.enter g args) w) (b off n c:Nat) (zs:List α) (w:World) (hp:PredAt Tryz.prog g lb enc p w) (hz:n≤zs.length) (hbig:n≤9223372036854775807) (hc:∀ j,j < zs.length→w.cell? ⟨b,off+j,none⟩=some (enc zs[j]!)) :
 Calls Tryz.prog 108 #[.slice (some ⟨b,off,none⟩) n c,.func (.func g) #[] lb] w fun e w'=>e=.returned (.bool ((zs.take n).any p))∧∃ q,w' = w.drewN q:=AnyE.slices_ContainsFunc Tryz.laysSlH8_f108 enc p g lb eg b off n c zs w hp hz hbig hc
open Go.RowKit Go.Lib in
theorem Tryz.slices_ContainsFunc_empty {α:Type} [Inhabited α] (a:Option Addr) (c:Nat) (fv:Value) (w:World) :
 Calls Tryz.prog 108 #[.slice a 0 c,fv] w fun e w'=>e=.returned (.bool false)∧w' = w:=AnyE.slices_ContainsFunc_empty Tryz.laysSlH8_f108 a c fv w
def Tryz.x0z:Go.Shelf.Ren:=⟨fun | 6=>39 | 15=>89 | 14=>88 | 28=>134 | 29=>135 | 20=>126 | 21=>127 | 22=>128 | 23=>129 | 24=>130 | 25=>131 | 26=>132 | 27=>133 | 46=>154 | 47=>155 | 48=>156 | 49=>157 | 50=>158 | 57=>169 | n=>n,fun | 22=>53 | 24=>78 | 25=>96 | 3=>3 | 39=>154 | 0=>0 | 53=>204 | 55=>206 | 4=>4 | 46=>198 | 45=>197 | 50=>147 | 5=>5 | 9=>9 | 66=>223 | 70=>227 | 76=>238 | 77=>239 | n=>n,fun | n=>n⟩
theorem Tryz.layF39:Go.Proofs.SlLaysF0.n6 Tryz.prog Tryz.x0z:={
 mixed:=by kernel_rfl,f6:=⟨Tryz.f39.name,by decide,fy func39⟩,f14:=⟨Tryz.f88.name,by decide,fy func88⟩,f15:=fy func89,f20:=⟨Tryz.f126.name,by decide,fy func126⟩,f21:=⟨Tryz.f127.name,by decide,fy func127⟩,f22:=⟨Tryz.f128.name,by decide,fy func128⟩,f23:=⟨Tryz.f129.name,by decide,fy func129⟩,f24:=⟨Tryz.f130.name,by decide,fy func130⟩,f25:=⟨Tryz.f131.name,by decide,fy func131⟩,f26:=⟨Tryz.f132.name,by decide,fy func132⟩,f27:=⟨Tryz.f133.name,by decide,fy func133⟩,f28:=fy func134,f29:=fy func135,f46:=⟨Tryz.f154.name,by decide,fy func154⟩,f47:=fy func155,f48:=fy func156,f49:=⟨Tryz.f157.name,by decide,fy func157⟩,f50:=⟨Tryz.f158.name,by decide,fy func158⟩,f57:=⟨Tryz.f169.name,by decide,fy func169⟩,t0:=underlying0,a0:=isAgg0,z0:=sizeOf0,v0:=zeroValue0,t3:=underlying3,a3:=isAgg3,z3:=sizeOf3,v3:=zeroValue3,t4:=underlying4,a4:=isAgg4,z4:=sizeOf4,v4:=zeroValue4,t5:=underlying5,a5:=isAgg5,z5:=sizeOf5,v5:=zeroValue5,t9:=underlying9,a9:=isAgg9,z9:=sizeOf9,v9:=zeroValue9,t22:=underlying53,a22:=isAgg53,z22:=sizeOf53,v22:=zeroValue53,t25:=underlying96,a25:=isAgg96,z25:=sizeOf96,v25:=zeroValue96,t39:=underlying154,a39:=isAgg154,z39:=sizeOf154,v39:=zeroValue154,t45:=underlying197,a45:=isAgg197,z45:=sizeOf197,v45:=zeroValue197,t46:=underlying198,a46:=isAgg198,z46:=sizeOf198,v46:=zeroValue198,t50:=underlying147,a50:=isAgg147,z50:=sizeOf147,v50:=zeroValue147,t53:=underlying204,a53:=isAgg204,z53:=sizeOf204,v53:=zeroValue204,t55:=underlying206,a55:=isAgg206,z55:=sizeOf206,v55:=zeroValue206,t66:=underlying223,a66:=isAgg223,z66:=sizeOf223,v66:=zeroValue223,t70:=underlying227,a70:=isAgg227,z70:=sizeOf227,v70:=zeroValue227,t76:=underlying238,a76:=isAgg238,z76:=sizeOf238,v76:=zeroValue238,t77:=underlying239,a77:=isAgg239,z77:=sizeOf239,v77:=zeroValue239 }
def Tryz.x0v:Go.Shelf.Ren:=⟨fun | 41=>34 | n=>n,fun | 22=>52 | 23=>85 | 4=>4 | n=>n,fun | n=>n⟩
theorem Tryz.layC34:Go.Proofs.SlLaysE0.n41 Tryz.prog Tryz.x0v:={
 mixed:=by kernel_rfl,f41:=⟨Tryz.f34.name,by decide,fy func34⟩,t4:=underlying4,a4:=isAgg4,z4:=sizeOf4,v4:=zeroValue4,t22:=underlying52,a22:=isAgg52,z22:=sizeOf52,v22:=zeroValue52 }
def Tryz.x0w:Go.Shelf.Ren:=⟨fun | 41=>35 | n=>n,fun | 22=>53 | 23=>78 | 4=>4 | n=>n,fun | n=>n⟩
theorem Tryz.layC35:Go.Proofs.SlLaysE0.n41 Tryz.prog Tryz.x0w:={
 mixed:=by kernel_rfl,f41:=⟨Tryz.f35.name,by decide,fy func35⟩,t4:=underlying4,a4:=isAgg4,z4:=sizeOf4,v4:=zeroValue4,t22:=underlying53,a22:=isAgg53,z22:=sizeOf53,v22:=zeroValue53 }
def Tryz.x0x:Go.Shelf.Ren:=⟨fun | 41=>47 | n=>n,fun | 22=>54 | 23=>90 | 4=>4 | n=>n,fun | n=>n⟩
theorem Tryz.layC47:Go.Proofs.SlLaysE0.n41 Tryz.prog Tryz.x0x:={
 mixed:=by kernel_rfl,f41:=⟨Tryz.f47.name,by decide,fy func47⟩,t4:=underlying4,a4:=isAgg4,z4:=sizeOf4,v4:=zeroValue4,t22:=underlying54,a22:=isAgg54,z22:=sizeOf54,v22:=zeroValue54 }
def Tryz.x0y:Go.Shelf.Ren:=⟨fun | 41=>61 | n=>n,fun | 22=>39 | 23=>58 | 4=>4 | n=>n,fun | n=>n⟩
theorem Tryz.layC61:Go.Proofs.SlLaysE0.n41 Tryz.prog Tryz.x0y:={
 mixed:=by kernel_rfl,f41:=⟨Tryz.f61.name,by decide,fy func61⟩,t4:=underlying4,a4:=isAgg4,z4:=sizeOf4,v4:=zeroValue4,t22:=underlying39,a22:=isAgg39,z22:=sizeOf39,v22:=zeroValue39 }
def Tryz.y7b:Go.Shelf.Ren:=⟨fun | 8=>145 | 6=>162 | n=>n,fun | 22=>52 | 23=>85 | 25=>213 | 4=>4 | 3=>3 | 0=>0 | n=>n,fun | n=>n⟩
theorem Tryz.layH145:Go.Proofs.SlLaysH0.n8 Tryz.prog Tryz.y7b:={
 mixed:=by kernel_rfl,f6:=⟨Tryz.f162.name,by decide,fy func162⟩,f8:=⟨Tryz.f145.name,by decide,fy func145⟩,t0:=underlying0,a0:=isAgg0,z0:=sizeOf0,v0:=zeroValue0,t3:=underlying3,a3:=isAgg3,z3:=sizeOf3,v3:=zeroValue3,t4:=underlying4,a4:=isAgg4,z4:=sizeOf4,v4:=zeroValue4,t22:=underlying52,a22:=isAgg52,z22:=sizeOf52,v22:=zeroValue52,t25:=underlying213,a25:=isAgg213,z25:=sizeOf213,v25:=zeroValue213 }
def Tryz.y7c:Go.Shelf.Ren:=⟨fun | 7=>168 | 6=>175 | n=>n,fun | 22=>53 | 24=>78 | 4=>4 | 0=>0 | 3=>3 | n=>n,fun | n=>n⟩
theorem Tryz.layQ168:Go.Proofs.SlLaysQ.n7 Tryz.prog Tryz.y7c:={
 mixed:=by kernel_rfl,f6:=⟨Tryz.f175.name,by decide,fy func175⟩,f7:=⟨Tryz.f168.name,by decide,fy func168⟩,t0:=underlying0,a0:=isAgg0,z0:=sizeOf0,v0:=zeroValue0,t3:=underlying3,a3:=isAgg3,z3:=sizeOf3,v3:=zeroValue3,t4:=underlying4,a4:=isAgg4,z4:=sizeOf4,v4:=zeroValue4,t22:=underlying53,a22:=isAgg53,z22:=sizeOf53,v22:=zeroValue53 }
end Go.Proofs
