import Derived.Test.YtpenlfedkacglaaGreatDoorL13
import Derived.Maps.OwnOps
set_option maxRecDepth 100000
set_option maxHeartbeats 40000000
set_option linter.all false
namespace Go.Proofs.YtpenlfedkacglaaGreatDoor
open Go.RowKit
attribute [local go_sem] z05 z07 z01 z02
attribute [-go_sem] run_equalIn_agg
theorem y5g (x:Int):∀ (l:List Int) (i:Nat),Lib.idxFrom l x i=if z5k l x < 0 then -1 else (i:Int)+z5k l x
 | [],i=>by simp[Lib.idxFrom,z5k]
 | a::l,i=>by
  have ih:=y5g x l (i+1);have hg:=z8e l x;unfold Lib.idxFrom z5k;by_cases h:a=x
  ·simp[h]
  ·simp only[h,if_false];first | rw[if_neg (by simpa using h)] | skip
   rw[ih];by_cases h2:z5k l x < 0
   ·simp[h2]
   ·simp only[h2,if_false];rw[if_neg (by omega)];omega
theorem j1v (l:List Int) (x:Int):Lib.idxOf l x=z5k l x:=by
 have:=y5g x l 0;have hg:=z8e l x;unfold Lib.idxOf;rw[this];split
 ·omega
 ·omega
theorem x0u (l:List Int) (A:Option Addr) (cap:Nat) (x:Int) (w:World) (hr:RdS cI w (Lt w) A l) (hl:l.length≤maxLen) (h0:0 < l.length):Calls Tryz.prog 107 #[.slice A l.length cap,.int .i64 x] w fun e w'=>e=.returned (.int .i64 (z5k l x))∧w' = w:=by
 have hr2:=hr;obtain ⟨b,off,rfl,hb,-⟩:=hr2 h0;refine (Tryz.slices_Index_int b off l.length cap l x w nL (by unfold maxLen at hl;omega) (fun j hj=>?_)).mono ?_
 ·obtain ⟨b',off',hA,-,-,y0⟩:=hr.elI hj;simp only[qE,Addr.mk.injEq,and_true] at hA;obtain ⟨rfl,rfl⟩:=hA;rw[y0];simp[List.getD,hj]
 ·rintro e w' ⟨rfl,rfl⟩;rw[List.take_length,j1v];exact ⟨rfl,rfl⟩
theorem z4f (v:z1w) (x:Int) (w:World) (hr:TvR w v) (hx:x∈v.t.pts):Calls Tryz.prog 60 #[.agg (z0t v),.int .i64 x] w fun e w'=>e=.returned (.int .i64 (plF v.t x))∧Below w.heap.size w w':=by
 have hb:=Bx.new hr;have x1:=hb.x1;have HI:=hE (x0u v.t.pts v.A2 v.c2 x _ hb.rd.r2 hr.n2.1 (List.length_pos_of_mem hx));have HP:Hid (z5k v.t.pts x=plF v.t x):=hE rfl;go_enter Tryz.func60,Tryz.ntmps60
 go_wp2_with fail;refine HI.out.mono ?_;rintro e w1 ⟨rfl,rfl⟩;rw[HP.out];clear x1;go_wp2_with fail
 go_ret;exact ⟨rfl,hb.bel⟩
structure j4m (r:Rou):Prop where
 n1:r.path.length≤30000
 n2:r.pts.length≤30000
 n3:r.secs.length≤30000
 n4:r.over.length≤30000
 n5:r.opts.length≤30000
 n6:r.osecs.length≤30000
 n7:r.flk.length≤30000
def y4p (t:Tab):Prop:=∀ r∈t.rts,j4m r
theorem y4p.ok {t:Tab} (h:y4p t):y4q t:=fun r hr=>⟨by have:=(h r hr).n3;omega,by have:=(h r hr).n6;omega⟩
theorem y74 {α:Type} {p:α→Bool} {l:List α} {k:Nat} (h:k < l.length):(l.take (k+1)).filter p=(l.take k).filter p++(if p l[k]=true then [l[k]] else []):=by
 rw[tqS h,List.filter_append];congr 1;cases hp:p l[k] <;> simp[hp]
theorem filter_le {α:Type} (p:α→Bool) (l:List α) (k:Nat):((l.take k).filter p).length≤l.length:=nR (List.length_filter_le _ _) (by rw[lTk];omega)
theorem y4c {t:Tab} (hc:z4y t=0) {el:Int} (h:el∈t.pts):∃ j:Nat,plF t el=j∧j < t.pts.length∧j < t.homes.length:=by
 obtain ⟨h1,h2⟩:=y8p h;have h3:=z8e t.pts el;refine ⟨(plF t el).toNat,?_,?_,?_⟩ <;> unfold plF
 ·omega
 ·omega
 ·rw[(z8l hc).hl];omega
theorem j0b {t:Tab} {j:Nat} (h:j < t.homes.length):x67 t (j:Int)=t.homes[j]:=by simp[x67,List.getD,h]
def j8i (t:Tab) (r:Rou) (s:RSt):Rou:={ zR with pts:=j4r t r s,opts:=r.opts,flk:=r.flk }
theorem j5e {t:Tab} {r:Rou} {s:RSt} (h:s.st≠0):z4s t r s=z1t (j8i t r s):=by unfold z4s;rw[if_neg h];rfl
def j7z (t:Tab) (r:Rou) (s:RSt) (x:Stg):Bool:=!decide (x67 t (plF t x.el)∈r.secs.take s.rel.toNat)
theorem j3h (t:Tab) (r:Rou) (s:RSt):j4r t r s=r.pts.filter (j7z t r s):=rfl
theorem z9v (v:z1w) (rv:z2v) (s:RSt) (w:World) (hr:TvR w v) (hrv:RvR w (Lt w) rv) (hck:z4y v.t=0) (hm:rv.r∈v.t.rts) (hS:j4m rv.r) (hrel:x6b rv.r.secs.length s):Calls Tryz.prog 59 #[.agg (z0t v),.agg (z0e rv),.agg #[.int .i64 s.st,.int .i64 s.rel,.int .i64 s.tim]] w (y35 z2x 78 w (z4s v.t rv.r s)):=by
 obtain ⟨i0,hi,hy0,hy1,hy2⟩:=info_parts z3k;obtain ⟨W2,hW2⟩:∃ W,W=((w.alloc (.cells (z0t v) 33)).alloc (.cells (z0e rv) 56)).alloc (.cells #[.int .i64 s.st,.int .i64 s.rel,.int .i64 s.tim] 58):=⟨_,rfl⟩
 have hb2:Below w.heap.size w W2:=by rw[hW2];exact ((bQ.alloc nL _).alloc (by simp) _).alloc (by simp;omega) _
 have hx0:Blk W2 w.heap.size 33 (z0t v):=by rw[hW2];exact ((Blk.new _ _ _ _ rfl).alloc _).alloc _
 have hx1:Blk W2 (w.heap.size+1) 56 (z0e rv):=by rw[hW2];exact (Blk.new _ _ _ _ (by simp)).alloc _
 have hx2:Blk W2 (w.heap.size+2) 58 #[.int .i64 s.st,.int .i64 s.rel,.int .i64 s.tim]:=by rw[hW2];exact Blk.new _ _ _ _ (by simp)
 by_cases h0:s.st=0
 ·have HX:Hid ([]=z4s v.t rv.r s):=hE (by unfold z4s;rw[if_pos h0]);have t1:(s.st==0)=true:=by simpa using h0
  have HB:=hE hb2;rw[hW2] at HB;clear h0 hrel hb2 hx0 hx1 hx2 hW2;go_enter Tryz.func59,Tryz.ntmps59
  go_wp2_with fail;go_ret
  exact z0x HX.out rfl (z09.nil _ _ _ _ nZ) HB.out
 obtain ⟨k,hk,hlt⟩:=hrel h0;have HX:=hE (j5e (t:=v.t) (r:=rv.r) h0);have t1:(s.st==0)=false:=by simpa using h0
 clear h0 hrel;have hc3:=hrv.o.n3;have hc2:=hrv.o.n2;have hs3:=hS.n3;have hs2:=hS.n2;unfold maxLen at hc3 hc2;obtain ⟨bs3,off3,hA3,lb3,-,-⟩:=(hrv.now hb2).r3.elI hlt;have HRT:Hid (RdS cI W2 (Lt W2) (some ⟨bs3,off3,none⟩) (rv.r.secs.take k)):=hE (by have:=(hrv.now hb2).r3.take k;rwa [hA3] at this);have HCK:=hE hck;have HPT:Hid (∀ x∈rv.r.pts,x.el∈v.t.pts):=hE fun x hx=>((z8l hck).stg _ hm x (by simp[hx])).1
 have HA3:=hE hA3;clear hA3;have hkc:¬rv.c3=0:=by omega
 have hkl:(k:Int)≤(rv.r.secs.length:Int):=by omega
 have hkcap:(k:Int)≤(rv.c3:Int):=by omega
 have hk0:(0:Int)≤(k:Int):=by omega
 have HPP:Hid (∀ x,j7z v.t rv.r s x = !decide (x67 v.t (plF v.t x.el)∈rv.r.secs.take k)):=hE fun x=>by unfold j7z;rw[hk];rfl
 have HTL:=hE (show (rv.r.secs.take k).length=k by rw[lTk];omega);obtain ⟨st,rel,tim⟩:=s;dsimp only at hk t1 hx2 hW2 HX HPP ⊢;subst hk;have HPL:=hE (j3h v.t rv.r ⟨st,(k:Int),tim⟩);go_enter Tryz.func59,Tryz.ntmps59
 go_wp2_with fail;rw[←hW2];clear hW2 hck hm;generalize hPp:j7z v.t rv.r ⟨st,(k:Int),tim⟩=pp at *;go_loopw [7,16] (fun a i wr=>∃ j:Nat,j≤rv.r.pts.length∧i=.int .i64 j∧z09 z2x wr W2.heap.size 78 a ((rv.r.pts.take j).filter pp) 0∧Below W2.heap.size W2 wr) (fun _ i _=>rv.r.pts.length - (intOf i).toNat)
 case atStart=>exact ⟨0,nZ,rfl,z09.nil _ _ _ _ nZ,bQ⟩
 case round=>
  obtain ⟨j,hj,rfl,hacc,hb⟩:=hrel;have hsz:=hb.size;have hbb:=z00 hb2 hb2.size hb;have hal:=filter_le pp rv.r.pts j;by_cases hltj:j < rv.r.pts.length
  ·have hji:(j:Int) < (rv.r.pts.length:Int):=by omega
   obtain ⟨b,off,hA,lb,ho,y0,y1⟩:=(hrv.now hbb).r2.elG hltj;have lbw:b < wr.heap.size:=lb;have HS:=hE (y74 (p:=pp) hltj);obtain ⟨m,hm,hm1,hm2⟩:=y4c HCK.out (HPT.out _ (uE hltj));have HQ:Hid (pp rv.r.pts[j] = !decide (v.t.homes[m]∈rv.r.secs.take k)):=hE (by rw[HPP.out,hm,j0b hm2]);obtain ⟨bh,offh,hAh,lbh,hoh,z0⟩:=(hr.now hbb).r3.elI hm2;have HIX:=hE fun W' (h:Below wr.heap.size wr W')=>z4f v rv.r.pts[j].el W' (hr.now (z00 hbb hbb.size h)) (HPT.out _ (uE hltj))
   have HHAS:=hE fun W' (h:Below wr.heap.size wr W')=>x7r (rv.r.secs.take k) v.t.homes[m] (some ⟨bs3,off3,none⟩) rv.c3 W' (HRT.out.now (z00 hb hb.size h)) (by rw[HTL.out];unfold maxLen;omega)
   rw[HTL.out] at HHAS;rw[hm] at HIX;generalize v.t.homes[m]=hom at *;generalize rv.r.pts[j]=x at *;generalize (rv.r.pts.take j).filter pp=acc at *;obtain ⟨W6,hW6⟩:∃ W,W=wr.alloc (.cells #[.int .i64 x.el,.int .i64 x.pos] 78):=⟨_,rfl⟩
   have hbe6:Below wr.heap.size wr W6:=by rw[hW6];exact bQ.alloc nL _
   have hbx:Blk W6 wr.heap.size 78 #[.int .i64 x.el,.int .i64 x.pos]:=by rw[hW6];exact Blk.new _ _ _ _ rfl
   have hal6:=z00 hb hb.size hbe6;have hacc6:=hacc.now hbe6;have lx:=hbx.lt;have l0:=(hx0.now hal6).lt;have l1:=(hx1.now hal6).lt;have l2:=(hx2.now hal6).lt;have lh:bh < W6.heap.size:=nT lbh hbe6.size;have zh:=(hbe6.cell (p:=⟨bh,offh+m,none⟩) lbh).trans z0;have hmi:(m:Int) < (v.t.homes.length:Int):=by omega
   rw[hA];have HSS:Hid (∀ W,Below W6.heap.size W6 W→(fun w'=>w'.cell? ⟨w.heap.size,0,none⟩=some (.slice v.A1 v.t.rts.length v.c1)∧w'.cell? ⟨w.heap.size,1,none⟩=some (.slice v.A2 v.t.pts.length v.c2)∧w'.cell? ⟨w.heap.size,2,none⟩=some (.slice (some ⟨bh,offh,none⟩) v.t.homes.length v.c3)∧w'.cell? ⟨w.heap.size,3,none⟩=some (.int .i64 v.t.nsec)∧w'.cell? ⟨w.heap.size,4,none⟩=some (.int .i64 v.t.nsig)∧w'.cell? ⟨w.heap.size+1,5,none⟩=some (.slice (some ⟨bs3,off3,none⟩) rv.r.secs.length rv.c3)∧w'.cell? ⟨w.heap.size+2,1,none⟩=some (.int .i64 (k:Int))∧w'.cell? ⟨wr.heap.size,0,none⟩=some (.int .i64 x.el)∧w'.cell? ⟨bh,offh+m,none⟩=some (.int .i64 hom)∧Below W6.heap.size W6 w') W):=hE fun W h=>⟨(h.cell (p:=⟨w.heap.size,0,none⟩) l0).trans (((hx0.now hal6).cell 0)),(h.cell (p:=⟨w.heap.size,1,none⟩) l0).trans (((hx0.now hal6).cell 1)),(h.cell (p:=⟨w.heap.size,2,none⟩) l0).trans (((hx0.now hal6).cell 2).trans (by unfold z0t;rw[hAh];rfl)),(h.cell (p:=⟨w.heap.size,3,none⟩) l0).trans (((hx0.now hal6).cell 3)),(h.cell (p:=⟨w.heap.size,4,none⟩) l0).trans (((hx0.now hal6).cell 4)),(h.cell (p:=⟨w.heap.size+1,5,none⟩) l1).trans (((hx1.now hal6).cell 5).trans (by unfold z0e;rw[HA3.out];rfl)),(h.cell (p:=⟨w.heap.size+2,1,none⟩) l2).trans ((hx2.now hal6).cell 1),(h.cell (p:=⟨wr.heap.size,0,none⟩) lx).trans (hbx.cell 0),(h.cell (p:=⟨bh,offh+m,none⟩) lh).trans zh,h⟩
   unfold z0t at HIX;rw[hAh] at HIX;clear l0 l1 l2 lh zh lx z0 hAh;go_wp2_with fail
   rw[←hW6];clear hW6 y0 y1;refine rgS 15 HSS fun hHeld=>?_
   refine tkM 10 [0,1,2,3,4,5,6,7,8,9] ?_;refine rd1 10 rfl fun K hK=>?_
   go_simp;go_at_call 60
   refine (HIX.out _ (hbe6.trans (bQ.drew.mono hbe6.size))).mono ?_;rintro e w7 ⟨rfl,hq7⟩;have hq7':Below W6.heap.size W6 w7:=bQ.drew.trans hq7;go_wp2_with fail
   refine hK.out _ _ (HSS.out _ hq7') (fun hHeld=>?_);clear hK K;try simp only[Act.put,lsa,lsz,lss]
   refine tkM 2 [11,12] ?_;refine rd1 13 rfl fun K hK=>?_
   go_simp;go_at_call 106
   refine (HHAS.out _ (hbe6.trans (hq7'.mono hbe6.size))).mono ?_;rintro e w8 ⟨rfl,hq8⟩;have hq8':Below W6.heap.size W6 w8:=z00 hq7' hq7'.size hq8;go_wp2_with fail
   refine hK.out _ _ (HSS.out _ hq8') (fun hHeld=>?_);clear hK K;try simp only[Act.put,lsa,lsz,lss]
   refine tkM 1 [14] ?_;refine wdn ?_
   cases hin:decide (hom∈rv.r.secs.take k) with
   | true=>
    have HX2:Hid ((rv.r.pts.take (j+1)).filter pp=acc):=hE (by rw[HS.out,HQ.out,hin];simp);have hacc8:=hacc6.now hq8';have hal8:=z00 hal6 hal6.size hq8';have hbx8:=hbx.now hq8';clear HSS HIX HHAS hq7 hq7' hq8 hq8' hHeld hbe6 hal6 hacc6 hbx hb hbb hacc;go_wp2_with fail
    go_roundw
    case rel=>
     have hj1:j+1≤rv.r.pts.length:=hltj;refine ⟨j+1,hj1,by go_num,?_,hal8⟩;rw[HX2.out];exact hacc8
    case measure=>simp[intOf];omega
   | false=>
    have HX2:Hid ((rv.r.pts.take (j+1)).filter pp=acc++[x]):=hE (by rw[HS.out,HQ.out,hin];simp);have hacc8:=hacc6.now hq8';have hal8:=z00 hal6 hal6.size hq8';have hbx8:=hbx.now hq8';clear HSS HIX HHAS hq7 hq7' hq8 hq8' hHeld hbe6 hal6 hacc6 hbx hb hbb hacc;have hsz8:=hal8.size;have ub0:=hbx8.cell 0;have ub1:=hbx8.cell 1;have ubl:=hbx8.lt;simp only[gqA,gqZ,gqS] at ub0 ub1;clear hbx8;go_wp2_with (at_builtin;go_loud (refine z0h (c:=z2x) _ rfl _ _ 53 rfl W2.heap.size 78 i0 _ 16 Tryz.underlying53 hi hy0 hy1 hy2 rfl (by decide) _ acc 0 rfl hacc8 [.int .i64 x.el,.int .i64 x.pos] x ⟨rfl,ho⟩ (by intro u hu;simp at hu;rcases hu with rfl | rfl <;> rfl) _ rfl (by omega) (by omega) (by omega) ?_);intro v' w9 hown9 hf9 hs9)
    go_roundw
    case rel=>
     have hj1:j+1≤rv.r.pts.length:=hltj;refine ⟨j+1,hj1,by go_num,?_,hf9.keeps nL hsz8 hal8⟩;rw[HX2.out];exact hown9
    case measure=>simp[intOf];omega
  ·have hji:¬(j:Int) < (rv.r.pts.length:Int):=by omega
   rw[tlL (by omega)] at hacc hal;obtain ⟨A7,c7,hv7⟩:=hacc.form;rw[hv7] at hacc;have hrd7:=hacc.rdn;have hrvb:=hrv.now hbb;obtain ⟨fl,hfl⟩:∃ f,rv.r.pts.filter pp=f:=⟨_,rfl⟩
   rw[hfl] at hacc hrd7 hv7 hal;have HBR:Hid (j8i v.t rv.r ⟨st,(k:Int),tim⟩ = { zR with pts:=fl,opts:=rv.r.opts,flk:=rv.r.flk }):=hE (by unfold j8i;rw[HPL.out,hfl]);let bv:z2v:={ r:={ zR with pts:=fl,opts:=rv.r.opts,flk:=rv.r.flk },A1:=none,A2:=A7,A3:=none,A4:=none,A5:=rv.A5,A6:=none,A7:=rv.A7,A8:=none,A9:=none,c1:=0,c2:=c7,c3:=0,c4:=0,c5:=rv.c5,c6:=0,c7:=rv.c7,c8:=0,c9:=0 }
   have hz:z0p 0:=by constructor <;> simp
   have hbv:RvR wr (Lt wr) bv:=⟨⟨nZ,hz,hz,hz,hz,⟨nZ,nZ⟩,hrd7.1,⟨nZ,nZ⟩,⟨nZ,nZ⟩,hrvb.o.n5,⟨nZ,nZ⟩,hrvb.o.n7,⟨nZ,nZ⟩,⟨nZ,nZ⟩⟩,RdS.nil _ _ _ _,hrd7.2.more (fun b h=>h.2),RdS.nil _ _ _ _,RdS.nil _ _ _ _,hrvb.r5,RdS.nil _ _ _ _,hrvb.r7,RdS.nil _ _ _ _,RdS.nil _ _ _ _⟩
   have HT:=hE (z3y bv wr hbv (by show fl.length≤30000;omega) hS.n5 hS.n7);have y4:=(hx1.now hb).cell 4;have y9:=(hx1.now hb).cell 9;have y11:=(hx1.now hb).cell 11;have ly:=(hx1.now hb).lt;simp only[gqA,gqZ,gqS] at y4 y9 y11;subst hv7;dsimp only [bv] at HT;clear hrd7 hacc hbv;go_wp2_with fail
   refine HT.out.mono ?_;rintro e w9 ⟨A9,c9,rfl,ho9,hq9⟩;have hb9:=z00 hbb hbb.size hq9;have ho99:=ho9.lower hbb.size;clear ho9 hq9 HT y4 y9 y11 ly;have HE:Hid (z1t { zR with pts:=fl,opts:=rv.r.opts,flk:=rv.r.flk } = z4s v.t rv.r ⟨st,(k:Int),tim⟩):=hE (by rw[←HBR.out,←HX.out]);go_wp2_with fail
   go_ret;exact z0x HE.out rfl ho99 hb9
def InT (w:World) (T:TypeId):Nat→Prop:=fun b=>∃ cs,w.heap[b]? = some (.cells cs T (0,0))
theorem InT.lt {w:World} {T:TypeId} {b:Nat} (h:InT w T b):b < w.heap.size:=z0j h.choose_spec
theorem InT.now {w w':World} {T:TypeId} (hb:Below w.heap.size w w') {b:Nat} (h:InT w T b):InT w' T b:=⟨h.choose,(hb.block b h.lt).trans h.choose_spec⟩
theorem InT.frm {w w':World} {T e:TypeId} {base:Nat} (hf:Frm base e w w') (hT:T≠e) {b:Nat} (h:InT w T b):InT w' T b:=by
 obtain ⟨cs,h⟩:=h;exact ⟨cs,hf.obj b _ h fun cs' fr hx=>by simp only[Obj.cells.injEq] at hx;exact hT hx.2.1⟩
def y9x {α:Type} (c:Cod α) (w:World) (base:Nat) (T e:TypeId) (v:Value) (l:List α):Prop:=z2l c w base (InT w T) e v l
theorem y9x.now {α:Type} {c:Cod α} {w w':World} {base:Nat} {T e:TypeId} {v:Value} {l:List α} (h:y9x c w base T e v l) (hb:Below w.heap.size w w'):y9x c w' base T e v l:=
 (z2l.now h (fun b hb=>hb.lt) hb).more fun b hb2=>hb2.now hb
theorem y9x.apart {α:Type} {c:Cod α} {w:World} {base:Nat} {T e:TypeId} {v:Value} {l:List α} (h:y9x c w base T e v l) (hT:T≠e):∀ b,InT w T b→b < w.heap.size∧v.ownBlock≠some b:=fun b hb=>⟨hb.lt,fun he=>by
 obtain ⟨cs,h1⟩:=z2l.obj h b he;obtain ⟨cs2,h2⟩:=hb;rw[h1] at h2;simp only[qE,Obj.cells.injEq] at h2;exact hT h2.2.1.symm⟩
theorem y9x.nil {α:Type} (c:Cod α) (w:World) (base:Nat) (T e:TypeId) (hb:base≤w.heap.size):y9x c w base T e (.slice none 0 0) ([]:List α):=⟨[],World.ownsRow_nil w base e c.size,rfl,hb⟩
theorem k0c {α:Type} {c:Cod α} {w:World} {base:Nat} {T:TypeId} {A:Option Addr} {cap:Nat} {l:List α} (h:z09 c w base T (.slice A l.length cap) l 0):(cL c).rd w (InT w T) [.slice A l.length cap] l:=by
 obtain ⟨A',cap',he,hn,hx⟩:=h.rds (S:=InT w T) (fun b cs hh _=>⟨cs,hh⟩) (fun b hb=>absurd hb.1 (Nat.not_lt_zero _));simp only[Value.slice.injEq] at he;obtain ⟨rfl,-,rfl⟩:=he;exact ⟨A,cap,rfl,hn,hx⟩
theorem y9x.rd {α:Type} {c:Cod α} {w:World} {base:Nat} {T e:TypeId} {A:Option Addr} {cap:Nat} {l:List α} (h:y9x c w base T e (.slice A l.length cap) l):(l.length≤maxLen∧l.length≤cap)∧RdS c w (Lt w) A l:=by
 have hl:=z2l.lt h;obtain ⟨A',cap',he,hn,hx⟩:=z2l.rds h (S':=Lt w) (fun b hb=>hb.lt) (fun b hb=>(hl b hb).2);simp only[Value.slice.injEq] at he;obtain ⟨rfl,-,rfl⟩:=he;exact ⟨hn,hx⟩
theorem x56:(Tryz.prog.info? 116).map (fun i=>(i.zero,i.size,i.bytes))=some (some (.slice none 0 0),1,24):=by kernel_rfl
theorem j8m {α:Type} {c:Cod α} {w:World} {S:Nat→Prop} {A:Option Addr} {ls:List (List α)} (h:RdS (cL c) w S A ls) {k:Nat} (hk:k < ls.length):∃ b off A' cap',A=some ⟨b,off,none⟩∧S b∧w.cell? ⟨b,off+k,none⟩=some (.slice A' ls[k].length cap')∧(ls[k].length≤maxLen∧ls[k].length≤cap')∧RdS c w S A' ls[k]:=by
 obtain ⟨b,off,h1,h2⟩:=h.pick rfl;obtain ⟨u,h3,h4⟩:=h2 k _ (gqE hk);obtain ⟨A',cap',rfl,h5,h6⟩:=z7f h3;exact ⟨b,off,A',cap',(h1 (by omega)).1,(h1 (by omega)).2,h4,h5,h6⟩
def y6l (t:Tab) (s:Itr) (k:Nat):List (List (Int × Int)):=(List.range k).map fun i=>z3l (z0r t i) (z1d s i)
theorem z7k (t:Tab) (s:Itr) (k:Nat):(y6l t s k).length=k:=by simp[y6l]
theorem x3v (t:Tab) (s:Itr) (k:Nat):y6l t s (k+1)=y6l t s k++[z3l (z0r t k) (z1d s k)]:=by simp[y6l,List.range_succ]
theorem x3u {t:Tab} {s:Itr} {n k:Nat} (h:k < (y6l t s n).length):(y6l t s n)[k]=z3l (z0r t k) (z1d s k):=by simp[y6l]
theorem z2u {t:Tab} {k:Nat} (h:k < t.rts.length):z0r t k=t.rts[k]:=by simp[z0r,List.getD,h]
theorem z5g {s:Itr} {k:Nat} (h:k < s.rts.length):z1d s k=s.rts[k]:=by simp[z1d,List.getD,h]
theorem y2u {x:RSt} {n:Nat} (h:z0z x n=true) (hn:0 < n):x6b n x:=by
 intro _;rcases j3i h with h0 | h0 | h0 | h0 | h0
 ·exact ⟨0,(x9h h (Or.inl h0)).1,hn⟩
 ·exact ⟨0,(x9h h (Or.inr (Or.inl h0))).1,hn⟩
 ·exact ⟨0,(x9h h (Or.inr (Or.inr h0))).1,hn⟩
 ·have:=(rf3 h h0).1;exact ⟨x.rel.toNat,by omega,by omega⟩
 ·have:=(rf4 h h0).1;exact ⟨x.rel.toNat,by omega,by omega⟩
theorem y7g (r:Rou) (s:RSt):(z3l r s).length≤r.secs.length+r.osecs.length:=by
 have h1:=y0i r s;have h2:=y5u r s;unfold z3l;rw[qL,List.length_map,List.length_map];omega
def ApP (t:Tab) (s:Itr) (a:Nat):Prop:=∀ a' < a,(List.range a').all (fun b=>!y6w (z0r t a') (z0r t b) (z3l (z0r t a') (z1d s a')) (z3l (z0r t b) (z1d s b)))=true
def ApQ (t:Tab) (s:Itr) (a k:Nat):Prop:=∀ b < k,y6w (z0r t a) (z0r t b) (z3l (z0r t a) (z1d s a)) (z3l (z0r t b) (z1d s b))=false
theorem j5b {t:Tab} {s:Itr} (h:ApP t s t.rts.length):apartB t s=true:=by
 unfold apartB;rw[laT];exact fun a ha=>h a (List.mem_range.1 ha)
theorem j0p {t:Tab} {s:Itr} {a:Nat} (h:ApP t s a) (hq:ApQ t s a a):ApP t s (a+1):=fun a' ha=>by
 by_cases he:a' = a
 ·subst he;rw[laT];intro b hb;rw[hq b (List.mem_range.1 hb)];rfl
 ·exact h a' (by omega)
theorem j8f {t:Tab} {s:Itr} {a b:Nat} (ha:a < t.rts.length) (hb:b < a) (hx:y6w (z0r t a) (z0r t b) (z3l (z0r t a) (z1d s a)) (z3l (z0r t b) (z1d s b))=true):apartB t s=false:=by
 cases h:apartB t s with
 | false=>rfl
 | true=>
  unfold apartB at h;rw[laT] at h;have h1:=h a (List.mem_range.2 ha);rw[laT] at h1;have h2:=h1 b (List.mem_range.2 hb);rw[hx] at h2;cases h2
def HeP (t:Tab) (s:Itr) (k:Nat):Prop:=∀ i < k,(z4s t (z0r t i) (z1d s i)).all (z4u t s)=true
theorem j5x {t:Tab} {s:Itr} (h:HeP t s t.rts.length):y3s t s=true:=by
 unfold y3s;rw[laT];exact fun a ha=>h a (List.mem_range.1 ha)
theorem j1p {t:Tab} {s:Itr} {k:Nat} (h:HeP t s k) (hq:(z4s t (z0r t k) (z1d s k)).all (z4u t s)=true):HeP t s (k+1):=fun i hi=>by
 by_cases he:i=k
 ·subst he;exact hq
 ·exact h i (by omega)
theorem j8o {t:Tab} {s:Itr} {k:Nat} (hk:k < t.rts.length) (hx:(z4s t (z0r t k) (z1d s k)).all (z4u t s)=false):y3s t s=false:=by
 cases h:y3s t s with
 | false=>rfl
 | true=>
  unfold y3s at h;rw[laT] at h;have h2:=h k (List.mem_range.2 hk);rw[hx] at h2;cases h2
def LiQ (t:Tab) (s:Itr) (l:List Stg) (k:Nat):Prop:=(l.take k).all (z4u t s)=true
theorem x6l {t:Tab} {r:Rou} {s:RSt} {x:Stg} (h:x∈z4s t r s):x∈r.pts++(r.opts++r.flk):=by
 unfold z4s at h;split at h
 ·cases h
 ·have h1:=z1o.1 h;simp only[j4r,mAp,List.mem_filter] at h1 ⊢;rcases h1 with h1 | h1
  ·exact Or.inl h1.1
  ·exact Or.inr h1
theorem y0x (r:Rou):(z1t r).length≤r.pts.length+(r.opts.length+r.flk.length):=by
 unfold z1t;refine nR (z4t _) ?_;rw[(z1k _).length_eq,qL,qL];omega
theorem x2m {t:Tab} {r:Rou} {s:RSt}:(z4s t r s).length≤r.pts.length+(r.opts.length+r.flk.length):=by
 unfold z4s;split
 ·exact nZ
 ·refine nR (y0x _) ?_;have:=List.length_filter_le (fun x:Stg=>!decide (x67 t (plF t x.el)∈r.secs.take s.rel.toNat)) r.pts;simp only[j4r];omega
theorem x3z {t:Tab} {s:Itr} {x:Stg} {j:Nat} (h:plF t x.el=j) (hj:j < s.lies.length):z4u t s x=decide (s.lies[j]=x.pos):=by
 unfold z4u;rw[h];simp[List.getD,hj]
theorem y6d (v:z1w) (u:z1r) (w:World) (hr:TvR w v) (hs:y1j w u) (hS:y4p v.t):Calls Tryz.prog 23 #[.agg (z0t v),.agg (z1v u)] w fun e w'=>e=.returned (.bool (z7z v.t u.i))∧Below w.heap.size w w':=by
 obtain ⟨i0,hi,hy0,hy1,hy2⟩:=info_parts x56;obtain ⟨W2,hW2⟩:∃ W,W=(w.alloc (.cells (z0t v) 33)).alloc (.cells (z1v u) 41):=⟨_,rfl⟩
 have hb2:Below w.heap.size w W2:=by rw[hW2];exact (bQ.alloc nL _).alloc (by simp) _
 have hx0:Blk W2 w.heap.size 33 (z0t v):=by rw[hW2];exact (Blk.new _ _ _ _ rfl).alloc _
 have hx1:Blk W2 (w.heap.size+1) 41 (z1v u):=by rw[hW2];exact Blk.new _ _ _ _ (by simp)
 have HFT:=hE (fits_any v u W2 (hr.now hb2) (hs.now hb2) hS.ok);have hn1:=hs.n1.1;have hn2:=hs.n2.1;have hm1:=hr.n1.1;unfold maxLen at hn1 hn2 hm1;obtain ⟨ft,hft⟩:∃ c,y1h v.t u.i=c:=⟨_,rfl⟩
 rw[hft] at HFT;have HS:=hE hS;clear hS;go_enter Tryz.func23,Tryz.ntmps23
 go_wp2_with fail;rw[←hW2];clear hW2;refine HFT.out.mono ?_;rintro e w3 ⟨rfl,hq3⟩;have hb3:=z00 hb2 hb2.size hq3;have hx03:=hx0.now hq3;have hx13:=hx1.now hq3;clear hx0 hx1 hb2 HFT hq3
 cases ft with
 | false=>
  have HX:Hid (z7z v.t u.i=false):=hE (by unfold z7z;rw[hft];rfl);clear hft hx03 hx13;go_wp2_with fail
  go_ret
  exact ⟨z0a HX.out.symm,hb3⟩
 | true=>
 have HF:=hE (z6u hft);have HSN:Hid (z7z v.t u.i=(apartB v.t u.i && y3s v.t u.i)):=hE (by unfold z7z;rw[hft];rfl);have hnr:v.t.rts.length≤48:=(z8l HF.out.chk).nr;have x0:=hx03.cell 0;have x1:=hx03.cell 1;have y0:=hx13.cell 0;have y1:=hx13.cell 1;have l0:=hx03.lt;have l1:=hx13.lt;simp only[gqA,gqZ,gqS] at x0 x1 y0 y1;have hsz3:=hb3.size;have hlow3:=y9x.nil (cL cPr) w3 w.heap.size 170 116 hsz3;clear hft;go_wp2_with fail
 clear x0 x1 y0 y1 l0 l1;go_loopw [5,21] (fun a i wr=>∃ k:Nat,k≤v.t.rts.length∧i=.int .i64 k∧y9x (cL cPr) wr w.heap.size 170 116 a (y6l v.t u.i k)∧Below w.heap.size w wr∧Blk wr w.heap.size 33 (z0t v)∧Blk wr (w.heap.size+1) 41 (z1v u)) (fun _ i _=>v.t.rts.length - (intOf i).toNat)
 case atStart=>exact ⟨0,nZ,rfl,hlow3,hb3,hx03,hx13⟩
 case round=>
  obtain ⟨k,hkl,rfl,hlow,hb,hxt,hxi⟩:=hrel;clear hlow3 hb3 hx03 hx13 hsz3;by_cases hlt:k < v.t.rts.length
  ·have hki:(k:Int) < (v.t.rts.length:Int):=by omega
   have hltu:k < u.i.rts.length:=by rw[HF.out.l1];exact hlt
   have hkiu:(k:Int) < (u.i.rts.length:Int):=by omega
   obtain ⟨bS,offS,hAS,lbS,hoS,z0,z1,z2⟩:=(hs.now hb).r1.elX hltu;obtain ⟨b2,off2,rv,hA2,lb2,hre,hrv,q0,q1,q2,q3,q4,q5,q6,q7,q8,q9,q10,q11,q12,q13⟩:=(hr.now hb).r1.elR hlt;have lbS0:bS < w.heap.size:=by obtain ⟨b',off',h1,h2,-⟩:=hs.r1.elX hltu;rw[hAS] at h1;simp only[qE,Addr.mk.injEq,and_true] at h1;rw[h1.1];exact h2
   have hsec:=HS.out _ (uE hlt);have hfit:=HF.out.st k hltu hlt;have hpos:=z3x HF.out.chk hlt;have HST:Hid (y6l v.t u.i (k+1)=y6l v.t u.i k++[z3l rv.r u.i.rts[k]]):=hE (by rw[x3v,z2u hlt,z5g hltu,hre]);rw[←hre] at hsec hfit hpos;have hrel:=y2u hfit hpos;clear hre;generalize u.i.rts[k]=x at *;have hlkl:=z7k v.t u.i k;have hacl:(y6l v.t u.i k).length≤48:=by rw[hlkl];omega
   generalize y6l v.t u.i k=acc at *;obtain ⟨W6,hW6⟩:∃ W,W=wr.alloc (.cells (z0e rv) 56):=⟨_,rfl⟩
   have hbe6:Below wr.heap.size wr W6:=by rw[hW6];exact bQ.alloc nL _
   have hxr:Blk W6 wr.heap.size 56 (z0e rv):=by rw[hW6];exact Blk.new _ _ _ _ rfl
   have hb6:=z00 hb hb.size hbe6;have hxi6:=hxi.now hbe6;have hxt6:=hxt.now hbe6;have hlow6:=hlow.now hbe6;have HLC:=hE fun W' (h:Below W6.heap.size W6 W')=>z8g rv x W' ((hrv.now hbe6).now h) hrel (by have:=hsec.n3;omega) (by have:=hsec.n6;omega)
   have hlen:(z3l rv.r x).length≤60000:=by have:=y7g rv.r x;have:=hsec.n3;have:=hsec.n6;omega
   have ZZ:=hE (aIq z0 (aIq z1 z2));have lbSr:bS < wr.heap.size:=lbS;have hZ:Hid (∀ W,Below w.heap.size w W→W.cell? ⟨bS,offS+k*3,none⟩=some (.int .i64 x.st)∧W.cell? ⟨bS,offS+k*3+1,none⟩=some (.int .i64 x.rel)∧W.cell? ⟨bS,offS+k*3+2,none⟩=some (.int .i64 x.tim)):=hE fun W h=>⟨(h.cell (p:=⟨bS,offS+k*3,none⟩) lbS0).trans ((hb.cell (p:=⟨bS,offS+k*3,none⟩) lbS0).symm.trans ZZ.out.1),(h.cell (p:=⟨bS,offS+k*3+1,none⟩) lbS0).trans ((hb.cell (p:=⟨bS,offS+k*3+1,none⟩) lbS0).symm.trans ZZ.out.2.1),(h.cell (p:=⟨bS,offS+k*3+2,none⟩) lbS0).trans ((hb.cell (p:=⟨bS,offS+k*3+2,none⟩) lbS0).symm.trans ZZ.out.2.2)⟩
   rw[hA2];have HSS:Hid (∀ W,Blk W wr.heap.size 56 (z0e rv)→Blk W (w.heap.size+1) 41 (z1v u)→Below w.heap.size w W→(fun w'=>w'.cell? ⟨wr.heap.size,0,none⟩=some (.string (bs rv.r.name))∧w'.cell? ⟨wr.heap.size,1,none⟩=some (.int .i64 rv.r.ent)∧w'.cell? ⟨wr.heap.size,2,none⟩=some (.int .i64 rv.r.ext)∧w'.cell? ⟨wr.heap.size,3,none⟩=some (.slice rv.A1 rv.r.path.length rv.c1)∧w'.cell? ⟨wr.heap.size,4,none⟩=some (.slice rv.A2 rv.r.pts.length rv.c2)∧w'.cell? ⟨wr.heap.size,5,none⟩=some (.slice rv.A3 rv.r.secs.length rv.c3)∧w'.cell? ⟨wr.heap.size,6,none⟩=some (.int .i64 rv.r.app)∧w'.cell? ⟨wr.heap.size,7,none⟩=some (.int .i64 rv.r.len)∧w'.cell? ⟨wr.heap.size,8,none⟩=some (.slice rv.A4 rv.r.over.length rv.c4)∧w'.cell? ⟨wr.heap.size,9,none⟩=some (.slice rv.A5 rv.r.opts.length rv.c5)∧w'.cell? ⟨wr.heap.size,10,none⟩=some (.slice rv.A6 rv.r.osecs.length rv.c6)∧w'.cell? ⟨wr.heap.size,11,none⟩=some (.slice rv.A7 rv.r.flk.length rv.c7)∧w'.cell? ⟨wr.heap.size,12,none⟩=some (.slice rv.A8 rv.r.grd.length rv.c8)∧w'.cell? ⟨wr.heap.size,13,none⟩=some (.slice rv.A9 rv.r.gap.length rv.c9)∧w'.cell? ⟨w.heap.size+1,0,none⟩=some (.slice (some ⟨bS,offS,none⟩) u.i.rts.length u.c1)∧w'.cell? ⟨bS,offS+k*3,none⟩=some (.int .i64 x.st)∧w'.cell? ⟨bS,offS+k*3+1,none⟩=some (.int .i64 x.rel)∧w'.cell? ⟨bS,offS+k*3+2,none⟩=some (.int .i64 x.tim)) W):=hE fun W h1 h2 h3=>⟨h1.cell 0,h1.cell 1,h1.cell 2,h1.cell 3,h1.cell 4,h1.cell 5,h1.cell 6,h1.cell 7,h1.cell 8,h1.cell 9,h1.cell 10,h1.cell 11,h1.cell 12,h1.cell 13,(h2.cell 0).trans (by unfold z1v;rw[hAS];rfl),hZ.out W h3⟩
   have HA2:=hE hA2;clear ZZ hA2 hAS;go_wp2_with fail
   rw[←hW6];clear hW6 z0 z1 z2 q0 q1 q2 q3 q4 q5 q6 q7 q8 q9 q10 q11 q12 q13 hlow hxi hxt hrv;refine rgH 11 (S:=(fun w'=>w'.cell? ⟨wr.heap.size,0,none⟩=some (.string (bs rv.r.name))∧w'.cell? ⟨wr.heap.size,1,none⟩=some (.int .i64 rv.r.ent)∧w'.cell? ⟨wr.heap.size,2,none⟩=some (.int .i64 rv.r.ext)∧w'.cell? ⟨wr.heap.size,3,none⟩=some (.slice rv.A1 rv.r.path.length rv.c1)∧w'.cell? ⟨wr.heap.size,4,none⟩=some (.slice rv.A2 rv.r.pts.length rv.c2)∧w'.cell? ⟨wr.heap.size,5,none⟩=some (.slice rv.A3 rv.r.secs.length rv.c3)∧w'.cell? ⟨wr.heap.size,6,none⟩=some (.int .i64 rv.r.app)∧w'.cell? ⟨wr.heap.size,7,none⟩=some (.int .i64 rv.r.len)∧w'.cell? ⟨wr.heap.size,8,none⟩=some (.slice rv.A4 rv.r.over.length rv.c4)∧w'.cell? ⟨wr.heap.size,9,none⟩=some (.slice rv.A5 rv.r.opts.length rv.c5)∧w'.cell? ⟨wr.heap.size,10,none⟩=some (.slice rv.A6 rv.r.osecs.length rv.c6)∧w'.cell? ⟨wr.heap.size,11,none⟩=some (.slice rv.A7 rv.r.flk.length rv.c7)∧w'.cell? ⟨wr.heap.size,12,none⟩=some (.slice rv.A8 rv.r.grd.length rv.c8)∧w'.cell? ⟨wr.heap.size,13,none⟩=some (.slice rv.A9 rv.r.gap.length rv.c9)∧w'.cell? ⟨w.heap.size+1,0,none⟩=some (.slice (some ⟨bS,offS,none⟩) u.i.rts.length u.c1)∧w'.cell? ⟨bS,offS+k*3,none⟩=some (.int .i64 x.st)∧w'.cell? ⟨bS,offS+k*3+1,none⟩=some (.int .i64 x.rel)∧w'.cell? ⟨bS,offS+k*3+2,none⟩=some (.int .i64 x.tim))) (HSS.out _ hxr.drew hxi6.drew hb6.drew) fun hHeld=>?_
   refine tkM 7 [0,1,2,3,4,5,6] ?_;refine rd1 7 rfl fun K hK=>?_
   go_simp;go_at_call 57
   refine (HLC.out _ bQ.drew).mono ?_;rintro e w7 ⟨A7,c7,rfl,ho7,hq7⟩;have hq7':Below W6.heap.size W6 w7:=bQ.drew.trans hq7;go_wp2_with fail
   refine hK.out _ _ (HSS.out _ (hxr.now hq7') (hxi6.now hq7') (z00 hb6 hb6.size hq7')) (fun hHeld=>?_);clear hK K;try simp only[Act.put,lsa,lsz,lss]
   have hq8:Below W6.heap.size W6 (w7.alloc (.cells #[.slice A7 (z3l rv.r x).length c7] 116)):=hq7'.alloc hq7'.size _;refine rd1 8 rfl fun K hK=>?_
   go_simp;refine hK.out _ _ (HSS.out _ (hxr.now hq8) (hxi6.now hq8) (z00 hb6 hb6.size hq8)) (fun hHeld=>?_);clear hK K;try simp only[Act.put,lsa,lsz,lss]
   have hlow8:=hlow6.now hq8;have ho8:=ho7.alloc (.cells #[.slice A7 (z3l rv.r x).length c7] 116);have hrd8:=k0c ho8;have hbx8:Blk (w7.alloc (.cells #[.slice A7 (z3l rv.r x).length c7] 116)) w7.heap.size 116 #[.slice A7 (z3l rv.r x).length c7]:=Blk.new _ _ _ _ rfl;refine rd1 9 rfl fun K hK=>?_
   refine z0b (c:=cL cPr) rfl _ _ 115 rfl w.heap.size 116 i0 _ 24 Tryz.underlying115 hi hy0 hy1 hy2 rfl (by decide) (InT (w7.alloc (.cells #[.slice A7 (z3l rv.r x).length c7] 116)) 170) _ acc rfl hlow8 (hlow8.apart (by decide)) [.slice A7 (z3l rv.r x).length c7] (z3l rv.r x) hrd8 (fun u hu=>by (simp at hu;subst hu;rfl)) ⟨w7.heap.size,0,none⟩ 1 rfl (fun j u hj=>by (rw[z0g];exact z0f hbx8 j u hj)) (by omega) (by omega) ?_;intro v9 w9 hl9 hf9 _;obtain ⟨A9,c9,hv9⟩:=hl9.form;rw[qL,hlkl] at hv9;subst hv9;have hb9:Below w.heap.size w w9:=hf9.keeps nL (z00 hb6 hb6.size hq8).size (z00 hb6 hb6.size hq8);have hxi9:=hf9.blk (hxi6.now hq8) (by decide);have hxr9:=hf9.blk (hxr.now hq8) (by decide);have hxt9:=hf9.blk (hxt6.now hq8) (by decide);have hlow9:y9x (cL cPr) w9 w.heap.size 170 116 (.slice A9 (k+1) c9) (acc++[z3l rv.r x]):=z2l.more hl9 fun b hb=>hb.frm hf9 (by decide)
   refine hK.out _ _ (HSS.out _ hxr9 hxi9 hb9) (fun hHeld=>?_);clear hK K;try simp only[Act.put,lsa,lsz,lss]
   refine tkM 1 [10] ?_;refine wdn ?_;clear HSS HLC hZ hq7 hq7' hq8 hHeld hbe6 hxr hxr9 hxi6 hxt6 hb6 hlow6 hlow8 ho7 ho8 hrd8 hbx8 hl9 hf9 hb;go_wp2_with fail
   go_roundw
   case rel=>
    have hk1:k+1≤v.t.rts.length:=hlt;refine ⟨k+1,hk1,by go_num,?_,hb9,hxt9,hxi9⟩;rw[HST.out];exact hlow9
   case measure=>simp[intOf];omega
  ·have hki:¬(k:Int) < (v.t.rts.length:Int):=by omega
   have hkn:k=v.t.rts.length:=by omega
   rename World=>w5
   subst hkn;obtain ⟨A5,c5,hv5⟩:=z2l.form hlow;rw[hv5] at hlow;have HALL:=hE (y9x.rd hlow).2;rw[z7k] at hv5;subst hv5;clear hlow hkl;have HBX:=hE fun W' (h:Below w5.heap.size w5 W')=>aIq (hxt.now h) (hxi.now h)
   have x0:=hxt.cell 0;have lx0:=hxt.lt;simp only[gqA,gqZ,gqS] at x0;clear hxt hxi;go_wp2_with fail
   clear x0 lx0;go_loopw [40] (fun i wq=>∃ a:Nat,a≤v.t.rts.length∧i=.int .i64 a∧Below w5.heap.size w5 wq∧Hid (ApP v.t u.i a)) (fun i _=>v.t.rts.length - (intOf i).toNat)
   case atStart=>exact ⟨0,nZ,rfl,bQ,hE fun a ha=>absurd ha (Nat.not_lt_zero _)⟩
   case round=>
    rename World=>wq
    obtain ⟨a,hal,rfl,hbq,HA⟩:=hrel;by_cases hlta:a < v.t.rts.length
    ·have hai:(a:Int) < (v.t.rts.length:Int):=by omega
     go_wp2_with fail;go_loopw [44] (fun i wz=>∃ b:Nat,b≤a∧i=.int .i64 b∧Below w5.heap.size w5 wz∧Hid (ApQ v.t u.i a b)) (fun i _=>a - (intOf i).toNat)
     case atStart=>exact ⟨0,nZ,rfl,hbq,hE fun b hb=>absurd hb (Nat.not_lt_zero _)⟩
     case round=>
      rename World=>wz
      obtain ⟨b,hbl,rfl,hbz,HQ⟩:=hrel;clear hbq;by_cases hltb:b < a
      ·have hbi:(b:Int) < (a:Int):=by omega
       have hltb2:b < v.t.rts.length:=by omega
       have hbi2:(b:Int) < (v.t.rts.length:Int):=by omega
       have hbwz:=z00 hb hb.size hbz;obtain ⟨b2,off2,ra,hA2,lb2,hrea,hrva,q0,q1,q2,q3,q4,q5,q6,q7,q8,q9,q10,q11,q12,q13⟩:=(hr.now hbwz).r1.elR hlta;obtain ⟨b3,off3,rb,hA3,lb3,hreb,hrvb,r0,r1,r2,r3,r4,r5,r6,r7,r8,r9,r10,r11,r12,r13⟩:=(hr.now hbwz).r1.elR hltb2;obtain ⟨pa,hpa⟩:∃ p,off2+a*14=p:=⟨_,rfl⟩
       rw[hpa] at q0 q1 q2 q3 q4 q5 q6 q7 q8 q9 q10 q11 q12 q13;rw[hA2] at hA3;simp only[qE,Addr.mk.injEq,and_true] at hA3;obtain ⟨rfl,rfl⟩:=hA3;obtain ⟨pb,hpb⟩:∃ p,off2+b*14=p:=⟨_,rfl⟩
       rw[hpb] at r0 r1 r2 r3 r4 r5 r6 r7 r8 r9 r10 r11 r12 r13;have hall:=(HALL.out.now hbz)
       have hla:a < (y6l v.t u.i v.t.rts.length).length:=by rw[z7k];exact hlta
       have hlb:b < (y6l v.t u.i v.t.rts.length).length:=by rw[z7k];exact hltb2
       obtain ⟨bA,offA,Aa,ca,hAA,lbA,za,na,hrda⟩:=j8m hall hla;obtain ⟨bB,offB,Ab,cb,hAB,lbB,zb,nb,hrdb⟩:=j8m hall hlb;rw[hAA] at hAB;simp only[qE,Addr.mk.injEq,and_true] at hAB;obtain ⟨rfl,rfl⟩:=hAB;rw[x3u hla] at za na hrda;rw[x3u hlb] at zb nb hrdb;obtain ⟨cl,hcl⟩:∃ c,y6w (z0r v.t a) (z0r v.t b) (z3l (z0r v.t a) (z1d u.i a)) (z3l (z0r v.t b) (z1d u.i b))=c:=⟨_,rfl⟩
       have HCL:Hid (∀ W',Below wz.heap.size wz W'→Calls Tryz.prog 58 #[.agg (z0e ra),.agg (z0e rb),.slice Aa (z3l (z0r v.t a) (z1d u.i a)).length ca,.slice Ab (z3l (z0r v.t b) (z1d u.i b)).length cb] W' fun e w'=>e=.returned (.bool cl)∧Below W'.heap.size W' w'):=hE fun W' h=>by
        refine (y4u ra rb _ _ Aa Ab ca cb W' (hrva.now h) (hrvb.now h) (hrda.now h) (hrdb.now h) na.1 nb.1).mono ?_;rintro e w' ⟨rfl,hq⟩;refine ⟨z0a ?_,hq⟩;rw[hrea,hreb,←z2u hlta,←z2u hltb2,hcl]
       have HCL2:=hE hcl;generalize (z3l (z0r v.t a) (z1d u.i a)).length=na1 at *;generalize (z3l (z0r v.t b) (z1d u.i b)).length=nb1 at *;obtain ⟨bxt,bxi⟩:=HBX.out wz hbz;have lxt:=bxt.lt;have hAlen:((y6l v.t u.i v.t.rts.length).length)=v.t.rts.length:=z7k _ _ _;rw[hAA];have l2':b2 < wz.heap.size:=lb2;have lA':bA < wz.heap.size:=lbA;have HSS:Hid (∀ W,Below wz.heap.size wz W→(fun w'=>w'.cell? ⟨w.heap.size,0,none⟩=some (.slice (some ⟨b2,off2,none⟩) v.t.rts.length v.c1)∧w'.cell? ⟨b2,pa,none⟩=some (.string (bs ra.r.name))∧w'.cell? ⟨b2,pa+1,none⟩=some (.int .i64 ra.r.ent)∧w'.cell? ⟨b2,pa+2,none⟩=some (.int .i64 ra.r.ext)∧w'.cell? ⟨b2,pa+3,none⟩=some (.slice ra.A1 ra.r.path.length ra.c1)∧w'.cell? ⟨b2,pa+4,none⟩=some (.slice ra.A2 ra.r.pts.length ra.c2)∧w'.cell? ⟨b2,pa+5,none⟩=some (.slice ra.A3 ra.r.secs.length ra.c3)∧w'.cell? ⟨b2,pa+6,none⟩=some (.int .i64 ra.r.app)∧w'.cell? ⟨b2,pa+7,none⟩=some (.int .i64 ra.r.len)∧w'.cell? ⟨b2,pa+8,none⟩=some (.slice ra.A4 ra.r.over.length ra.c4)∧w'.cell? ⟨b2,pa+9,none⟩=some (.slice ra.A5 ra.r.opts.length ra.c5)∧w'.cell? ⟨b2,pa+10,none⟩=some (.slice ra.A6 ra.r.osecs.length ra.c6)∧w'.cell? ⟨b2,pa+11,none⟩=some (.slice ra.A7 ra.r.flk.length ra.c7)∧w'.cell? ⟨b2,pa+12,none⟩=some (.slice ra.A8 ra.r.grd.length ra.c8)∧w'.cell? ⟨b2,pa+13,none⟩=some (.slice ra.A9 ra.r.gap.length ra.c9)∧w'.cell? ⟨b2,pb,none⟩=some (.string (bs rb.r.name))∧w'.cell? ⟨b2,pb+1,none⟩=some (.int .i64 rb.r.ent)∧w'.cell? ⟨b2,pb+2,none⟩=some (.int .i64 rb.r.ext)∧w'.cell? ⟨b2,pb+3,none⟩=some (.slice rb.A1 rb.r.path.length rb.c1)∧w'.cell? ⟨b2,pb+4,none⟩=some (.slice rb.A2 rb.r.pts.length rb.c2)∧w'.cell? ⟨b2,pb+5,none⟩=some (.slice rb.A3 rb.r.secs.length rb.c3)∧w'.cell? ⟨b2,pb+6,none⟩=some (.int .i64 rb.r.app)∧w'.cell? ⟨b2,pb+7,none⟩=some (.int .i64 rb.r.len)∧w'.cell? ⟨b2,pb+8,none⟩=some (.slice rb.A4 rb.r.over.length rb.c4)∧w'.cell? ⟨b2,pb+9,none⟩=some (.slice rb.A5 rb.r.opts.length rb.c5)∧w'.cell? ⟨b2,pb+10,none⟩=some (.slice rb.A6 rb.r.osecs.length rb.c6)∧w'.cell? ⟨b2,pb+11,none⟩=some (.slice rb.A7 rb.r.flk.length rb.c7)∧w'.cell? ⟨b2,pb+12,none⟩=some (.slice rb.A8 rb.r.grd.length rb.c8)∧w'.cell? ⟨b2,pb+13,none⟩=some (.slice rb.A9 rb.r.gap.length rb.c9)∧w'.cell? ⟨bA,offA+a,none⟩=some (.slice Aa na1 ca)∧w'.cell? ⟨bA,offA+b,none⟩=some (.slice Ab nb1 cb)∧Below wz.heap.size wz w') W):=hE fun W h=>⟨(h.cell (p:=⟨w.heap.size,0,none⟩) lxt).trans ((bxt.cell 0).trans (by unfold z0t;rw[hA2];rfl)),(h.cell (p:=⟨b2,pa,none⟩) l2').trans (q0),(h.cell (p:=⟨b2,pa+1,none⟩) l2').trans (q1),(h.cell (p:=⟨b2,pa+2,none⟩) l2').trans (q2),(h.cell (p:=⟨b2,pa+3,none⟩) l2').trans (q3),(h.cell (p:=⟨b2,pa+4,none⟩) l2').trans (q4),(h.cell (p:=⟨b2,pa+5,none⟩) l2').trans (q5),(h.cell (p:=⟨b2,pa+6,none⟩) l2').trans (q6),(h.cell (p:=⟨b2,pa+7,none⟩) l2').trans (q7),(h.cell (p:=⟨b2,pa+8,none⟩) l2').trans (q8),(h.cell (p:=⟨b2,pa+9,none⟩) l2').trans (q9),(h.cell (p:=⟨b2,pa+10,none⟩) l2').trans (q10),(h.cell (p:=⟨b2,pa+11,none⟩) l2').trans (q11),(h.cell (p:=⟨b2,pa+12,none⟩) l2').trans (q12),(h.cell (p:=⟨b2,pa+13,none⟩) l2').trans (q13),(h.cell (p:=⟨b2,pb,none⟩) l2').trans (r0),(h.cell (p:=⟨b2,pb+1,none⟩) l2').trans (r1),(h.cell (p:=⟨b2,pb+2,none⟩) l2').trans (r2),(h.cell (p:=⟨b2,pb+3,none⟩) l2').trans (r3),(h.cell (p:=⟨b2,pb+4,none⟩) l2').trans (r4),(h.cell (p:=⟨b2,pb+5,none⟩) l2').trans (r5),(h.cell (p:=⟨b2,pb+6,none⟩) l2').trans (r6),(h.cell (p:=⟨b2,pb+7,none⟩) l2').trans (r7),(h.cell (p:=⟨b2,pb+8,none⟩) l2').trans (r8),(h.cell (p:=⟨b2,pb+9,none⟩) l2').trans (r9),(h.cell (p:=⟨b2,pb+10,none⟩) l2').trans (r10),(h.cell (p:=⟨b2,pb+11,none⟩) l2').trans (r11),(h.cell (p:=⟨b2,pb+12,none⟩) l2').trans (r12),(h.cell (p:=⟨b2,pb+13,none⟩) l2').trans (r13),(h.cell (p:=⟨bA,offA+a,none⟩) lA').trans (za),(h.cell (p:=⟨bA,offA+b,none⟩) lA').trans (zb),h⟩
       clear bxt bxi lxt hAA hA2 l2' lA' q0 q1 q2 q3 q4 q5 q6 q7 q8 q9 q10 q11 q12 q13 r0 r1 r2 r3 r4 r5 r6 r7 r8 r9 r10 r11 r12 r13 za zb na nb hrda hrdb hrva hrvb hrea hreb hall hcl hAlen lb2 lbA lbB lb3;go_wp2_with fail
       refine rgS 19 HSS fun hHeld=>?_
       refine tkM 18 [0,1,2,3,4,5,6,7,8,9,10,11,12,13,14,15,16,17] ?_;refine rd1 18 rfl fun K hK=>?_
       go_simp;go_at_call 58
       refine (HCL.out _ bQ.drew).mono ?_;rintro e w7 ⟨rfl,hq7⟩;have hq7':Below wz.heap.size wz w7:=bQ.drew.trans hq7;go_wp2_with fail
       refine hK.out _ _ (HSS.out _ hq7') (fun hHeld=>?_);clear hK K;try simp only[Act.put,lsa,lsz,lss]
       refine wdn ?_;have hb7:=z00 hbz hbz.size hq7';have hbb7:=z00 hb hb.size hb7;clear HSS HCL hq7 hq7' hHeld hbz hbwz
       cases cl with
       | true=>
        have HX:Hid (z7z v.t u.i=false):=hE (by rw[HSN.out,j8f hlta hltb HCL2.out];rfl);go_wp2_with fail
        go_ret
        exact ⟨z0a HX.out.symm,hbb7⟩
       | false=>
        have HX:Hid (ApQ v.t u.i a (b+1)):=hE fun b' hb'=>by
         by_cases he:b' = b
         ·rw[he];exact HCL2.out
         ·exact HQ.out b' (by omega)
        go_wp2_with fail;go_roundw
        case rel=>
         have hk1:b+1≤a:=hltb;refine ⟨b+1,hk1,by go_num,hb7,?_⟩;exact HX
        case measure=>simp[intOf];omega
      ·have hbi:¬(b:Int) < (a:Int):=by omega
       have hba:b=a:=by omega
       subst hba;have HX:Hid (ApP v.t u.i (b+1)):=hE (j0p HA.out HQ.out);go_wp2_with fail
       go_roundw
       case rel=>
        have hk1:b+1≤v.t.rts.length:=hlta;refine ⟨b+1,hk1,by go_num,hbz,?_⟩;exact HX
       case measure=>simp[intOf];omega
    ·have hai:¬(a:Int) < (v.t.rts.length:Int):=by omega
     have HSN2:Hid (z7z v.t u.i=y3s v.t u.i):=hE (by
      have h1:=HA.out;rw[show a=v.t.rts.length by omega] at h1;rw[HSN.out,j5b h1];rfl)
     clear HSN HA HALL;obtain ⟨bxt,bxi⟩:=HBX.out wq hbq;have u0:=bxt.cell 0;have lu:=bxt.lt;simp only[gqA,gqZ,gqS] at u0;clear bxt bxi;go_wp2_with fail
     clear u0 lu;go_loopw [71] (fun i wx=>∃ k:Nat,k≤v.t.rts.length∧i=.int .i64 k∧Below w5.heap.size w5 wx∧Hid (HeP v.t u.i k)) (fun i _=>v.t.rts.length - (intOf i).toNat)
     case atStart=>exact ⟨0,nZ,rfl,hbq,hE fun a ha=>absurd ha (Nat.not_lt_zero _)⟩
     case round=>
      rename World=>wx
      obtain ⟨k,hkl,rfl,hbx,HH⟩:=hrel;clear hbq;have hbwx:=z00 hb hb.size hbx;by_cases hltk:k < v.t.rts.length
      ·have hki2:(k:Int) < (v.t.rts.length:Int):=by omega
       have hltu:k < u.i.rts.length:=by rw[HF.out.l1];exact hltk
       have hkiu:(k:Int) < (u.i.rts.length:Int):=by omega
       obtain ⟨bS,offS,hAS,lbS,hoS,z0,z1,z2⟩:=(hs.now hbwx).r1.elX hltu;obtain ⟨b2,off2,rv,hA2,lb2,hre,hrv,q0,q1,q2,q3,q4,q5,q6,q7,q8,q9,q10,q11,q12,q13⟩:=(hr.now hbwx).r1.elR hltk;have hsec:=HS.out _ (uE hltk);have hfit:=HF.out.st k hltu hltk;have hpos:=z3x HF.out.chk hltk;have hmem:rv.r∈v.t.rts:=by rw[hre];exact uE hltk
       have HBL:Hid (z4s v.t (z0r v.t k) (z1d u.i k)=z4s v.t rv.r u.i.rts[k]):=hE (by rw[z2u hltk,z5g hltu,hre]);rw[←hre] at hsec hfit hpos;have hrel:=y2u hfit hpos;clear hre;generalize u.i.rts[k]=x at *;obtain ⟨W6,hW6⟩:∃ W,W=wx.alloc (.cells (z0e rv) 56):=⟨_,rfl⟩
       have hbe6:Below wx.heap.size wx W6:=by rw[hW6];exact bQ.alloc nL _
       have hxr:Blk W6 wx.heap.size 56 (z0e rv):=by rw[hW6];exact Blk.new _ _ _ _ rfl
       have hb6:=z00 hbx hbx.size hbe6;obtain ⟨bxt,bxi⟩:=HBX.out W6 hb6;have hbw6:=z00 hb hb.size hb6;have HBD:=hE fun W' (h:Below W6.heap.size W6 W')=>z9v v rv x W' (hr.now (z00 hbw6 hbw6.size h)) ((hrv.now hbe6).now h) HF.out.chk hmem hsec hrel
       have hblen:(z4s v.t rv.r x).length≤90000:=by have:=x2m (t:=v.t) (r:=rv.r) (s:=x);have:=hsec.n2;have:=hsec.n5;have:=hsec.n7;omega
       have HMM:Hid (∀ y∈z4s v.t rv.r x,y.el∈v.t.pts):=hE fun y hy=>((z8l HF.out.chk).stg _ hmem y (x6l hy)).1
       have lxr:=hxr.lt;have lxt:=bxt.lt;have lxi:=bxi.lt;have lbS6:bS < W6.heap.size:=nT lbS hbe6.size;have c0:=(hbe6.cell (p:=⟨bS,offS+k*3,none⟩) lbS).trans z0;have c1:=(hbe6.cell (p:=⟨bS,offS+k*3+1,none⟩) lbS).trans z1;have c2:=(hbe6.cell (p:=⟨bS,offS+k*3+2,none⟩) lbS).trans z2;have lb2':b2 < wx.heap.size:=lb2;rw[hA2];have HSS:Hid (∀ W,Below W6.heap.size W6 W→(fun w'=>w'.cell? ⟨w.heap.size,0,none⟩=some (.slice v.A1 v.t.rts.length v.c1)∧w'.cell? ⟨w.heap.size,1,none⟩=some (.slice v.A2 v.t.pts.length v.c2)∧w'.cell? ⟨w.heap.size,2,none⟩=some (.slice v.A3 v.t.homes.length v.c3)∧w'.cell? ⟨w.heap.size,3,none⟩=some (.int .i64 v.t.nsec)∧w'.cell? ⟨w.heap.size,4,none⟩=some (.int .i64 v.t.nsig)∧w'.cell? ⟨wx.heap.size,0,none⟩=some (.string (bs rv.r.name))∧w'.cell? ⟨wx.heap.size,1,none⟩=some (.int .i64 rv.r.ent)∧w'.cell? ⟨wx.heap.size,2,none⟩=some (.int .i64 rv.r.ext)∧w'.cell? ⟨wx.heap.size,3,none⟩=some (.slice rv.A1 rv.r.path.length rv.c1)∧w'.cell? ⟨wx.heap.size,4,none⟩=some (.slice rv.A2 rv.r.pts.length rv.c2)∧w'.cell? ⟨wx.heap.size,5,none⟩=some (.slice rv.A3 rv.r.secs.length rv.c3)∧w'.cell? ⟨wx.heap.size,6,none⟩=some (.int .i64 rv.r.app)∧w'.cell? ⟨wx.heap.size,7,none⟩=some (.int .i64 rv.r.len)∧w'.cell? ⟨wx.heap.size,8,none⟩=some (.slice rv.A4 rv.r.over.length rv.c4)∧w'.cell? ⟨wx.heap.size,9,none⟩=some (.slice rv.A5 rv.r.opts.length rv.c5)∧w'.cell? ⟨wx.heap.size,10,none⟩=some (.slice rv.A6 rv.r.osecs.length rv.c6)∧w'.cell? ⟨wx.heap.size,11,none⟩=some (.slice rv.A7 rv.r.flk.length rv.c7)∧w'.cell? ⟨wx.heap.size,12,none⟩=some (.slice rv.A8 rv.r.grd.length rv.c8)∧w'.cell? ⟨wx.heap.size,13,none⟩=some (.slice rv.A9 rv.r.gap.length rv.c9)∧w'.cell? ⟨w.heap.size+1,0,none⟩=some (.slice (some ⟨bS,offS,none⟩) u.i.rts.length u.c1)∧w'.cell? ⟨bS,offS+k*3,none⟩=some (.int .i64 x.st)∧w'.cell? ⟨bS,offS+k*3+1,none⟩=some (.int .i64 x.rel)∧w'.cell? ⟨bS,offS+k*3+2,none⟩=some (.int .i64 x.tim)∧Below W6.heap.size W6 w') W):=hE fun W h=>⟨(h.cell (p:=⟨w.heap.size,0,none⟩) lxt).trans (bxt.cell 0),(h.cell (p:=⟨w.heap.size,1,none⟩) lxt).trans (bxt.cell 1),(h.cell (p:=⟨w.heap.size,2,none⟩) lxt).trans (bxt.cell 2),(h.cell (p:=⟨w.heap.size,3,none⟩) lxt).trans (bxt.cell 3),(h.cell (p:=⟨w.heap.size,4,none⟩) lxt).trans (bxt.cell 4),(h.cell (p:=⟨wx.heap.size,0,none⟩) lxr).trans (hxr.cell 0),(h.cell (p:=⟨wx.heap.size,1,none⟩) lxr).trans (hxr.cell 1),(h.cell (p:=⟨wx.heap.size,2,none⟩) lxr).trans (hxr.cell 2),(h.cell (p:=⟨wx.heap.size,3,none⟩) lxr).trans (hxr.cell 3),(h.cell (p:=⟨wx.heap.size,4,none⟩) lxr).trans (hxr.cell 4),(h.cell (p:=⟨wx.heap.size,5,none⟩) lxr).trans (hxr.cell 5),(h.cell (p:=⟨wx.heap.size,6,none⟩) lxr).trans (hxr.cell 6),(h.cell (p:=⟨wx.heap.size,7,none⟩) lxr).trans (hxr.cell 7),(h.cell (p:=⟨wx.heap.size,8,none⟩) lxr).trans (hxr.cell 8),(h.cell (p:=⟨wx.heap.size,9,none⟩) lxr).trans (hxr.cell 9),(h.cell (p:=⟨wx.heap.size,10,none⟩) lxr).trans (hxr.cell 10),(h.cell (p:=⟨wx.heap.size,11,none⟩) lxr).trans (hxr.cell 11),(h.cell (p:=⟨wx.heap.size,12,none⟩) lxr).trans (hxr.cell 12),(h.cell (p:=⟨wx.heap.size,13,none⟩) lxr).trans (hxr.cell 13),(h.cell (p:=⟨w.heap.size+1,0,none⟩) lxi).trans ((bxi.cell 0).trans (by unfold z1v;rw[hAS];rfl)),(h.cell (p:=⟨bS,offS+k*3,none⟩) lbS6).trans (c0),(h.cell (p:=⟨bS,offS+k*3+1,none⟩) lbS6).trans (c1),(h.cell (p:=⟨bS,offS+k*3+2,none⟩) lbS6).trans (c2),h⟩
       clear hA2 hAS z0 z1 z2 c0 c1 c2 lxr lxt lxi lbS6 bxt bxi hrv hmem hsec hfit hpos hrel hxr;go_wp2_with fail
       rw[←hW6];clear hW6 q0 q1 q2 q3 q4 q5 q6 q7 q8 q9 q10 q11 q12 q13 lb2 lb2' lbS hoS;refine rgS 10 HSS fun hHeld=>?_
       refine tkM 8 [0,1,2,3,4,5,6,9] ?_;refine rd1 7 rfl fun K hK=>?_
       go_simp;go_at_call 59
       refine (HBD.out _ bQ.drew).mono ?_;rintro e w7 ⟨A7,c7,rfl,ho7,hq7⟩;have hq7':Below W6.heap.size W6 w7:=bQ.drew.trans hq7;go_wp2_with fail
       refine hK.out _ _ (HSS.out _ hq7') (fun hHeld=>?_);clear hK K;try simp only[Act.put,lsa,lsz,lss]
       refine tkM 1 [8] ?_;refine wdn ?_;have hb7:=z00 hb6 hb6.size hq7';have hbw7:=z00 hb hb.size hb7;have ho77:=ho7.lower hbw6.size;have HRD:=hE (RdS.more ho7.rdn.2 fun b h=>h.2:RdS z2x w7 (Lt w7) A7 (z4s v.t rv.r x));clear HSS HBD hq7 hq7' hHeld hb6 hbe6 hbw6 hbwx hbx ho7 ho77;generalize z4s v.t rv.r x=bl at *;go_wp2_with fail
       go_loopw [85] (fun i wz=>∃ j:Nat,j≤bl.length∧i=.int .i64 j∧Below w7.heap.size w7 wz∧Hid (LiQ v.t u.i bl j)) (fun i _=>bl.length - (intOf i).toNat)
       case atStart=>exact ⟨0,nZ,rfl,bQ,hE (by unfold LiQ;simp)⟩
       case round=>
        rename World=>wz
        obtain ⟨j,hjl,rfl,hbz,HJ⟩:=hrel;have hb7z:=z00 hb7 hb7.size hbz;have hbwz:=z00 hbw7 hbw7.size hbz;by_cases hltj:j < bl.length
        ·have hji:(j:Int) < (bl.length:Int):=by omega
         obtain ⟨bg,offg,hAg,lbg,hog,y0,y1⟩:=(HRD.out.now hbz).elG hltj;have HSJ:=hE (z7e (p:=z4u v.t u.i) hltj);have HNJ:=hE (y3b (p:=z4u v.t u.i) hltj);have hym:=HMM.out _ (uE hltj);obtain ⟨m,hm,hm1,-⟩:=y4c HF.out.chk hym;have hml:m < u.i.lies.length:=by rw[HF.out.l2];exact hm1
         have hmi:(m:Int) < (u.i.lies.length:Int):=by omega
         have HLA:=hE (x3z (t:=v.t) (s:=u.i) hm hml);obtain ⟨bL,offL,hAL,lbL,hoL,zl⟩:=(hs.now hbwz).r2.elI hml;have HIX:=hE fun W' (h:Below wz.heap.size wz W')=>z4f v bl[j].el W' (hr.now (z00 hbwz hbwz.size h)) hym
         rw[hm] at HIX;clear hym hm;generalize u.i.lies[m]=lm at *;generalize bl[j]=y at *;obtain ⟨W8,hW8⟩:∃ W,W=wz.alloc (.cells #[.int .i64 y.el,.int .i64 y.pos] 78):=⟨_,rfl⟩
         have hbe8:Below wz.heap.size wz W8:=by rw[hW8];exact bQ.alloc nL _
         have hxy:Blk W8 wz.heap.size 78 #[.int .i64 y.el,.int .i64 y.pos]:=by rw[hW8];exact Blk.new _ _ _ _ rfl
         have hb8:=z00 hb7z hb7z.size hbe8;obtain ⟨bxt,bxi⟩:=HBX.out W8 hb8;have lxt:=bxt.lt;have lxi:=bxi.lt;have lxy:=hxy.lt;have lbL8:bL < W8.heap.size:=nT lbL hbe8.size;have cl:=(hbe8.cell (p:=⟨bL,offL+m,none⟩) lbL).trans zl;have lbg':bg < wz.heap.size:=lbg;rw[hAg];have HSS:Hid (∀ W,Below W8.heap.size W8 W→(fun w'=>w'.cell? ⟨w.heap.size,0,none⟩=some (.slice v.A1 v.t.rts.length v.c1)∧w'.cell? ⟨w.heap.size,1,none⟩=some (.slice v.A2 v.t.pts.length v.c2)∧w'.cell? ⟨w.heap.size,2,none⟩=some (.slice v.A3 v.t.homes.length v.c3)∧w'.cell? ⟨w.heap.size,3,none⟩=some (.int .i64 v.t.nsec)∧w'.cell? ⟨w.heap.size,4,none⟩=some (.int .i64 v.t.nsig)∧w'.cell? ⟨w.heap.size+1,1,none⟩=some (.slice (some ⟨bL,offL,none⟩) u.i.lies.length u.c2)∧w'.cell? ⟨wz.heap.size,0,none⟩=some (.int .i64 y.el)∧w'.cell? ⟨wz.heap.size,1,none⟩=some (.int .i64 y.pos)∧w'.cell? ⟨bL,offL+m,none⟩=some (.int .i64 lm)∧Below W8.heap.size W8 w') W):=hE fun W h=>⟨(h.cell (p:=⟨w.heap.size,0,none⟩) lxt).trans (bxt.cell 0),(h.cell (p:=⟨w.heap.size,1,none⟩) lxt).trans (bxt.cell 1),(h.cell (p:=⟨w.heap.size,2,none⟩) lxt).trans (bxt.cell 2),(h.cell (p:=⟨w.heap.size,3,none⟩) lxt).trans (bxt.cell 3),(h.cell (p:=⟨w.heap.size,4,none⟩) lxt).trans (bxt.cell 4),(h.cell (p:=⟨w.heap.size+1,1,none⟩) lxi).trans ((bxi.cell 1).trans (by unfold z1v;rw[hAL];rfl)),(h.cell (p:=⟨wz.heap.size,0,none⟩) lxy).trans (hxy.cell 0),(h.cell (p:=⟨wz.heap.size,1,none⟩) lxy).trans (hxy.cell 1),(h.cell (p:=⟨bL,offL+m,none⟩) lbL8).trans (cl),h⟩
         clear hAg hAL bxt bxi lxt lxi lxy lbL8 cl zl hxy;go_wp2_with fail
         rw[←hW8];clear hW8 y0 y1;refine rgS 11 HSS fun hHeld=>?_
         refine tkM 7 [0,1,2,3,4,8,9] ?_;refine rd1 5 rfl fun K hK=>?_
         go_simp;go_at_call 60
         refine (HIX.out _ (hbe8.trans (bQ.drew.mono hbe8.size))).mono ?_;rintro e w9 ⟨rfl,hq9⟩;have hq9':Below W8.heap.size W8 w9:=bQ.drew.trans hq9;go_wp2_with fail
         refine hK.out _ _ (HSS.out _ hq9') (fun hHeld=>?_);clear hK K;try simp only[Act.put,lsa,lsz,lss]
         refine tkM 3 [6,7,10] ?_;refine wdn ?_;have hb9:=z00 hbz hbz.size (hbe8.trans (hq9'.mono hbe8.size));have hbw9:=z00 hbw7 hbw7.size hb9;clear HSS HIX hq9 hq9' hHeld hbe8 hb8 hb7z hbwz hbz;by_cases hlm:lm=y.pos
         ·have t1:(lm != y.pos)=false:=by rw[hlm];exact bne_self_eq_false _
          have HX:Hid (LiQ v.t u.i bl (j+1)):=hE (by
           have h1:(bl.take j).all (z4u v.t u.i)=true:=HJ.out;unfold LiQ;rw[HSJ.out,h1,HLA.out,dTt hlm];rfl)
          clear hlm;go_wp2_with fail
          go_roundw
          case rel=>
           have hk1:j+1≤bl.length:=hltj;refine ⟨j+1,hk1,by go_num,hb9,?_⟩;exact HX
          case measure=>simp[intOf];omega
         ·have t1:(lm != y.pos)=true:=bne_iff_ne.2 hlm;have HX:Hid (z7z v.t u.i=false):=hE (by
           rw[HSN2.out];refine j8o hltk ?_;rw[HBL.out];exact HNJ.out (by rw[HLA.out,dFf hlm]))
          clear hlm;go_wp2_with fail
          go_ret;exact ⟨z0a HX.out.symm,hbw9⟩
        ·have hji:¬(j:Int) < (bl.length:Int):=by omega
         have HX:Hid (HeP v.t u.i (k+1)):=hE (j1p HH.out (by
          have h1:(bl.take j).all (z4u v.t u.i)=true:=HJ.out;rw[tlL (by omega)] at h1;rw[HBL.out];exact h1))
         go_wp2_with fail;go_roundw
         case rel=>
          have hk1:k+1≤v.t.rts.length:=hltk;refine ⟨k+1,hk1,by go_num,hb7z,?_⟩;exact HX
         case measure=>simp[intOf];omega
      ·have hki2:¬(k:Int) < (v.t.rts.length:Int):=by omega
       have HX:Hid (z7z v.t u.i=true):=hE (by
        have h1:=HH.out;rw[show k=v.t.rts.length by omega] at h1;rw[HSN2.out,j5x h1])
       go_wp2_with fail;go_ret
       exact ⟨z0a HX.out.symm,hbwx⟩
end Go.Proofs.YtpenlfedkacglaaGreatDoor
namespace Go.Proofs.YtpenlfedkacglaaGreatDoor
open Go.RowKit
open Go.Maps (Keyed IsMap)
theorem x3r (n:Int) (h:-9223372036854775808≤n∧n≤9223372036854775807):(Lib.itoa n).length≤21:=by
 have h1:∀ u:Nat,u≤9223372036854775808→(Lib.decDigits u).length≤20:=fun u hu=>by rw[Lib.decDigits_length];exact Lib.nDigits_le20 u (by omega)
 unfold Lib.itoa;split
 ·have:=h1 n.natAbs (by omega);simp only[lCn];omega
 ·have:=h1 n.toNat (by omega)
  omega
def nmd (r:Rou) (c:Nat):Rou:=if c=0 then r else { r with name:=r.name++46::Lib.itoa ((c+1:Nat):Int) }
def y4y (L:List Rou) (k:Nat) (x:List UInt8):Nat:=((L.take k).map Rou.name).count x
theorem y2q:∀ (L:List Rou) (seen:List (List UInt8)) (r:Rou),z1l seen (L++[r])=z1l seen L++[nmd r (seen.count r.name+(L.map Rou.name).count r.name)]
 | [],seen,r=>by simp[z1l,nmd]
 | a::L,seen,r=>by
  have ih:=y2q L (a.name::seen) r;simp only[List.cons_append,z1l,List.map_cons];rw[ih,show (a.name::seen).count r.name+(L.map Rou.name).count r.name=seen.count r.name+(a.name::L.map Rou.name).count r.name by rw[List.count_cons,List.count_cons];omega]
theorem x1e {L:List Rou} {k:Nat} (h:k < L.length):z1l [] (L.take (k+1))=z1l [] (L.take k)++[nmd L[k] (y4y L k L[k].name)]:=by
 rw[tqS h,y2q];simp[y4y]
theorem z5t:∀ (L:List Rou) (seen:List (List UInt8)),(z1l seen L).length=L.length
 | [],_=>rfl
 | a::L,seen=>by simp[z1l,z5t L]
theorem x2u {L:List Rou} {k:Nat} (h:k < L.length) (x:List UInt8):y4y L (k+1) x=if x=L[k].name then y4y L k x+1 else y4y L k x:=by
 unfold y4y;rw[tqS h,List.map_append,List.count_append,List.map_cons,List.map_nil,List.count_singleton];by_cases hx:x=L[k].name
 ·rw[if_pos hx,hx];simp
 ·rw[if_neg hx];have:¬(L[k].name==x)=true:=by simp;exact fun h=>hx h.symm
  simp[this]
theorem j1e (L:List Rou) (k:Nat) (x:List UInt8):y4y L k x≤k:=by
 unfold y4y;exact nR List.count_le_length (by rw[List.length_map,lTk];omega)
theorem x2v (L:List Rou) (x:List UInt8):y4y L 0 x=0:=by simp[y4y]
theorem y9q {l:Lay} (hK:z9a l) {i:Int} (h0:0≤i) (h1:i < l.sgs.length):(y82 l i).length≤12:=by
 obtain ⟨n,rfl⟩:∃ n:Nat,i=n:=⟨i.toNat,by omega⟩
 have hn:n < l.sgs.length:=by omega
 rw[(j7c hn).2];exact j2m (hK.sg _ (uE hn)).2
theorem x2p {l:Lay} (hK:z9a l) {i:Nat} (hi:i < l.sgs.length) (p:List Stp):(z2c l i p).name.length≤25:=by
 have h1:=y9q hK (i:=(i:Int)) (by omega) (by omega);have h2:=y0v l (z3h p);unfold z2c;dsimp only;rw[qL,lCn];split
 ·have:=y9q hK (i:=y4j l (z3h p)) (by assumption) h2.2;omega
 ·have:endW.length=3:=rfl;omega
theorem j4k (w:World):(zeroValue 3).run Tryz.prog w=.ok (.int .i64 0) w:=by kernel_rfl
def z7y (w:World) (b n:Nat) (f:List UInt8→Nat):Prop:=∃ D,w.ownsMap (H:=Unit) Tryz.prog 9 (plainElem Tryz.prog 3) b n D∧IsMap D∧∀ x:List UInt8,D.atKey (.string x) (.lit (.int .i64 0))=.lit (.int .i64 (f x:Int))
section
variable {w w':World} {b n:Nat} {f:List UInt8→Nat}
theorem z7y.made (w:World):z7y (w.alloc (.map #[] 0)) w.heap.size 0 (fun _=>0):=⟨_,World.ownsMap_made _ _ _ _,Maps.isMap_empty,fun _=>rfl⟩
theorem z7y.now (h:z7y w b n f) (hb:Below w.heap.size w w'):z7y w' b n f:=by
 obtain ⟨D,h1,h2⟩:=h;exact ⟨D,h1.kept (row:=none) ⟨hb.os,hb.tape,hb.output,hb.size,fun i hi _=>hb.block i hi⟩ (by simp),h2⟩
theorem z7y.obj (h:z7y w b n f):∃ es ck,w.heap[b]? = some (.map es ck):=by
 obtain ⟨D,⟨es,ck,h1,-⟩,-⟩:=h;exact ⟨es,ck,h1⟩
theorem z7y.lt (h:z7y w b n f):b < w.heap.size:=by obtain ⟨D,h1,_⟩:=h;exact h1.lt
theorem z7y.frm {base:Nat} {T:TypeId} (h:z7y w b n f) (hf:Frm base T w w'):z7y w' b n f:=by
 obtain ⟨D,⟨es,ck,h1,h2⟩,h3⟩:=h;exact ⟨D,⟨es,ck,hf.obj b _ h1 (fun cs fr hx=>by cases hx),h2⟩,h3⟩
theorem z7y.ext {f':List UInt8→Nat} (h:z7y w b n f) (he:∀ x,f x=f' x):z7y w b n f':=by
 rw[show f' = f from funext fun x=>(he x).symm];exact h
theorem z7y.ne {g:Nat} {T:TypeId} {cs:Array Value} (h:z7y w b n f) (hg:Blk w g T cs):g≠b:=fun he=>by
 obtain ⟨es,ck,h1⟩:=h.obj;rw[←he] at h1;have h2:w.heap[g]? = some (.cells cs T (0,0)):=hg;rw[h2] at h1;cases h1
theorem z7y.blk {g:Nat} {T:TypeId} {cs:Array Value} (h:z7y w b n f) (hg:Blk w g T cs) (hgr:w.grownBy w' (some b)):Blk w' g T cs:=
 (hgr.block g (z0j hg) (fun he=>h.ne hg (sJ he))).trans hg
end
theorem z7g {w:World} {p:Addr} (h:∀ cs T fr,w.heap[p.block]?≠some (.cells cs T fr)):w.cell? p=none:=by
 unfold World.cell?;split
 ·rename_i c T fr he;exact absurd he (h c T fr)
 ·rfl
theorem z09.cnt {α:Type} {c:Cod α} {w w':World} {base b n n' B:Nat} {e:TypeId} {v:Value} {l:List α} {f f':List UInt8→Nat} (h:z09 c w base e v l B) (hm:z7y w b n f) (hm':z7y w' b n' f') (hg:w.grownBy w' (some b)):z09 c w' base e v l B:=by
 obtain ⟨xs,h1,h2,h3⟩:=h;obtain ⟨es,ck,ho⟩:=hm.obj;obtain ⟨es',ck',ho'⟩:=hm'.obj;have hn:∀ cs T fr,w.heap[b]?≠some (.cells cs T fr):=fun cs T fr hx=>by rw[ho] at hx;cases hx
 have hn':∀ cs T fr,w'.heap[b]?≠some (.cells cs T fr):=fun cs T fr hx=>by rw[ho'] at hx;cases hx
 have hk:∀ p:Addr,Sep w e B p.block→w'.cell? p=w.cell? p:=fun p hp=>by
  by_cases hpb:p.block=b
  ·rw[z7g (w:=w') (by rw[hpb];exact hn'),z7g (w:=w) (by rw[hpb];exact hn)]
  ·exact z0k (hg.block _ (nT hp.1 h3) (fun he=>hpb (sJ he)))
 have hs:∀ q,Sep w e B q→Sep w' e B q:=fun q hq=>⟨hq.1,fun cs fr hx=>by
  by_cases hpb:q=b
  ·subst hpb;exact hn' cs e fr hx
  ·rw[hg.block q (nT hq.1 h3) (fun he=>hpb (sJ he))] at hx;exact hq.2 cs fr hx⟩
 refine ⟨xs,⟨h1.1,?_⟩,(h2.keep hk).more hs,nR h3 hg.size⟩;rcases h1.2 with h | ⟨g,cap,cur,rfl,h5,h6,h7⟩
 ·exact Or.inl h
 ·exact Or.inr ⟨g,cap,cur,rfl,h5,(hg.block g (z0j h6) (fun he=>by rw[←sJ he] at hn;exact hn _ _ _ h6)).trans h6,h7⟩
theorem j7o {n:Nat} (h:n≤1000000):(Lit.int .i64 (n:Int)).wf=true:=by simp[Lit.wf,IntKind.min,IntKind.max,IntKind.signed,IntKind.bits];omega
section
variable (w:World) {ops:Array Oper} {rest:List Oper} {o:Oper} {a:Act} {Q:Exit→Act→World→Prop}
theorem z5z (hg:o.guard=none) (m x:Operand) (t:TypeId) (hop:o.op=Op.lookup t m x false) (ht:Tryz.prog.underlying t=some (.map 9 3))
  (b n:Nat) (f:List UInt8→Nat) (hm:a.eval m=.map (some b)) (hown:z7y w b n f) (s:List UInt8) (hs:s.length≤maxLen) (hx:a.eval x=.string (bs s))
  (hK:wpList Tryz.prog ops Q rest (a.put o.dst (.int .i64 (f s:Int))) w):wpList Tryz.prog ops Q (o::rest) a w:=by
 obtain ⟨D,h1,h2,h3⟩:=hown;refine wpList_lookup_own_int w hg m x t hop 9 3 .i64 z7u ht Tryz.underlying3 (j4k w) b n D hm h1 _ (.string s) hx (y0y s hs) fun c hc _=>?_
 rw[h3 s] at hc;have:(f s:Int)=c:=(Lit.int.inj (DataW.lit.inj hc)).2;rw[←this];exact hK
theorem y1s (hg:o.guard=none) (m x v:Operand) (t:TypeId) (hop:o.op=Op.mapUpdate t m x v) (ht:Tryz.prog.underlying t=some (.map 9 3))
  (b n:Nat) (f:List UInt8→Nat) (hm:a.eval m=.map (some b)) (hown:z7y w b n f) (hn:n < maxLen) (s:List UInt8) (hs:s.length≤maxLen) (hx:a.eval x=.string (bs s)) (c:Nat) (hc:c≤1000000) (hv:a.eval v=.int .i64 (c:Int))
  (hK:∀ w',z7y w' b (n+1) (fun y=>if y=s then c else f y)→w.grownBy w' (some b)→wpList Tryz.prog ops Q rest (a.put o.dst undef) w'):wpList Tryz.prog ops Q (o::rest) a w:=by
 obtain ⟨D,h1,h2,h3⟩:=hown;refine wpList_mapUpdate_own (H:=Unit) w hg m x v t hop 9 3 z7u ht (plainElem Tryz.prog 3) b n D hm h1 hn _ _ (.string s) hx hv (y0y s hs) _ [] (plainElem_int Tryz.underlying3 (j7o hc)) fun w' h4 h5=>hK w' ⟨_,h4,h2.put _ _,fun y=>?_⟩ h5
 by_cases h:y=s
 ·subst h;dsimp only;rw[Maps.atKey_put_same h2 (z7u.key (y0y y hs)) _ _,if_pos rfl]
 ·dsimp only;rw[Maps.atKey_put_other (fun hk=>h (by injection hk)) _ _,if_neg h];exact h3 y
end
end Go.Proofs.YtpenlfedkacglaaGreatDoor
