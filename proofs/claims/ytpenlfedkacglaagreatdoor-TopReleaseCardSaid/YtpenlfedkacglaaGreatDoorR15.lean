import Derived.Test.YtpenlfedkacglaaGreatDoorR14
set_option maxRecDepth 100000
set_option maxHeartbeats 40000000
set_option linter.all false
namespace Go.Proofs.YtpenlfedkacglaaGreatDoor
open Go.RowKit
attribute [local go_sem] z05 z09 z01 z02
attribute [-go_sem] run_equalIn_agg
def InT (w:World) (T:TypeId):Nat→Prop:=fun b=>∃ cs,w.heap[b]? = some (.cells cs T (0,0))
theorem InT.lt {w:World} {T:TypeId} {b:Nat} (h:InT w T b):b < w.heap.size:=z0k h.choose_spec
theorem InT.now {w w':World} {T:TypeId} (hb:Below w.heap.size w w') {b:Nat} (h:InT w T b):InT w' T b:=⟨h.choose,(hb.block b h.lt).trans h.choose_spec⟩
theorem InT.frm {w w':World} {T e:TypeId} {base:Nat} (hf:Frm base e w w') (hT:T≠e) {b:Nat} (h:InT w T b):InT w' T b:=by
 obtain ⟨cs,h⟩:=h;exact ⟨cs,hf.obj b _ h fun cs' fr hx=>by simp only[Obj.cells.injEq] at hx;exact hT hx.2.1⟩
def y9n {α:Type} (c:Cod α) (w:World) (base:Nat) (T e:TypeId) (v:Value) (l:List α):Prop:=z2i c w base (InT w T) e v l
theorem y9n.now {α:Type} {c:Cod α} {w w':World} {base:Nat} {T e:TypeId} {v:Value} {l:List α} (h:y9n c w base T e v l) (hb:Below w.heap.size w w'):y9n c w' base T e v l:=
 (z2i.now h (fun b hb=>hb.lt) hb).more fun b hb2=>hb2.now hb
theorem y9n.apart {α:Type} {c:Cod α} {w:World} {base:Nat} {T e:TypeId} {v:Value} {l:List α} (h:y9n c w base T e v l) (hT:T≠e):∀ b,InT w T b→b < w.heap.size∧v.ownBlock≠some b:=fun b hb=>⟨hb.lt,fun he=>by
 obtain ⟨cs,h1⟩:=z2i.obj h b he;obtain ⟨cs2,h2⟩:=hb;rw[h1] at h2;simp only[qE,Obj.cells.injEq] at h2;exact hT h2.2.1.symm⟩
theorem y9n.nil {α:Type} (c:Cod α) (w:World) (base:Nat) (T e:TypeId) (hb:base≤w.heap.size):y9n c w base T e (.slice none 0 0) ([]:List α):=⟨[],World.ownsRow_nil w base e c.size,rfl,hb⟩
theorem k06 {α:Type} {c:Cod α} {w:World} {base:Nat} {T:TypeId} {A:Option Addr} {cap:Nat} {l:List α} (h:z07 c w base T (.slice A l.length cap) l 0):(cL c).rd w (InT w T) [.slice A l.length cap] l:=by
 obtain ⟨A',cap',he,hn,hx⟩:=h.rds (S:=InT w T) (fun b cs hh _=>⟨cs,hh⟩) (fun b hb=>absurd hb.1 (Nat.not_lt_zero _));simp only[Value.slice.injEq] at he;obtain ⟨rfl,-,rfl⟩:=he;exact ⟨A,cap,rfl,hn,hx⟩
theorem y9n.rd {α:Type} {c:Cod α} {w:World} {base:Nat} {T e:TypeId} {A:Option Addr} {cap:Nat} {l:List α} (h:y9n c w base T e (.slice A l.length cap) l):(l.length≤maxLen∧l.length≤cap)∧RdS c w (Lt w) A l:=by
 have hl:=z2i.lt h;obtain ⟨A',cap',he,hn,hx⟩:=z2i.rds h (S':=Lt w) (fun b hb=>hb.lt) (fun b hb=>(hl b hb).2);simp only[Value.slice.injEq] at he;obtain ⟨rfl,-,rfl⟩:=he;exact ⟨hn,hx⟩
theorem x4m:(Tryz.prog.info? 116).map (fun i=>(i.zero,i.size,i.bytes))=some (some (.slice none 0 0),1,24):=by kernel_rfl
theorem j8f {α:Type} {c:Cod α} {w:World} {S:Nat→Prop} {A:Option Addr} {ls:List (List α)} (h:RdS (cL c) w S A ls) {k:Nat} (hk:k < ls.length):∃ b off A' cap',A=some ⟨b,off,none⟩∧S b∧w.cell? ⟨b,off+k,none⟩=some (.slice A' ls[k].length cap')∧(ls[k].length≤maxLen∧ls[k].length≤cap')∧RdS c w S A' ls[k]:=by
 obtain ⟨b,off,h1,h2⟩:=h.pick rfl;obtain ⟨u,h3,h4⟩:=h2 k _ (gqE hk);obtain ⟨A',cap',rfl,h5,h6⟩:=z7e h3;exact ⟨b,off,A',cap',(h1 (by omega)).1,(h1 (by omega)).2,h4,h5,h6⟩
def y6f (t:Tab) (s:Itr) (k:Nat):List (List (Int × Int)):=(List.range k).map fun i=>z3i (z0w t i) (z1g s i)
theorem z7j (t:Tab) (s:Itr) (k:Nat):(y6f t s k).length=k:=by simp[y6f]
theorem x3g (t:Tab) (s:Itr) (k:Nat):y6f t s (k+1)=y6f t s k++[z3i (z0w t k) (z1g s k)]:=by simp[y6f,List.range_succ]
theorem x3e {t:Tab} {s:Itr} {n k:Nat} (h:k < (y6f t s n).length):(y6f t s n)[k]=z3i (z0w t k) (z1g s k):=by simp[y6f]
theorem z3m {t:Tab} {k:Nat} (h:k < t.rts.length):z0w t k=t.rts[k]:=by simp[z0w,List.getD,h]
theorem z7b {s:Itr} {k:Nat} (h:k < s.rts.length):z1g s k=s.rts[k]:=by simp[z1g,List.getD,h]
theorem y5y {x:RSt} {n:Nat} (h:z0v x n=true) (hn:0 < n):x5v n x:=by
 intro _;rcases j3c h with h0 | h0 | h0 | h0 | h0
 ·exact ⟨0,(x8u h (Or.inl h0)).1,hn⟩
 ·exact ⟨0,(x8u h (Or.inr (Or.inl h0))).1,hn⟩
 ·exact ⟨0,(x8u h (Or.inr (Or.inr h0))).1,hn⟩
 ·have:=(rf3 h h0).1;exact ⟨x.rel.toNat,by omega,by omega⟩
 ·have:=(rf4 h h0).1;exact ⟨x.rel.toNat,by omega,by omega⟩
theorem y78 (r:Rou) (s:RSt):(z3i r s).length≤r.secs.length+r.osecs.length:=by
 have h1:=y08 r s;have h2:=y5l r s;unfold z3i;rw[qL,List.length_map,List.length_map];omega
def ApP (t:Tab) (s:Itr) (a:Nat):Prop:=∀ a' < a,(List.range a').all (fun b=>!y6r (z0w t a') (z0w t b) (z3i (z0w t a') (z1g s a')) (z3i (z0w t b) (z1g s b)))=true
def ApQ (t:Tab) (s:Itr) (a k:Nat):Prop:=∀ b < k,y6r (z0w t a) (z0w t b) (z3i (z0w t a) (z1g s a)) (z3i (z0w t b) (z1g s b))=false
theorem j4w {t:Tab} {s:Itr} (h:ApP t s t.rts.length):apartB t s=true:=by
 unfold apartB;rw[laT];exact fun a ha=>h a (List.mem_range.1 ha)
theorem j0i {t:Tab} {s:Itr} {a:Nat} (h:ApP t s a) (hq:ApQ t s a a):ApP t s (a+1):=fun a' ha=>by
 by_cases he:a' = a
 ·subst he;rw[laT];intro b hb;rw[hq b (List.mem_range.1 hb)];rfl
 ·exact h a' (by omega)
theorem j7z {t:Tab} {s:Itr} {a b:Nat} (ha:a < t.rts.length) (hb:b < a) (hx:y6r (z0w t a) (z0w t b) (z3i (z0w t a) (z1g s a)) (z3i (z0w t b) (z1g s b))=true):apartB t s=false:=by
 cases h:apartB t s with
 | false=>rfl
 | true=>
  unfold apartB at h;rw[laT] at h;have h1:=h a (List.mem_range.2 ha);rw[laT] at h1;have h2:=h1 b (List.mem_range.2 hb);rw[hx] at h2;cases h2
def HeP (t:Tab) (s:Itr) (k:Nat):Prop:=∀ i < k,(z5k t (z0w t i) (z1g s i)).all (z5j t s)=true
theorem j5s {t:Tab} {s:Itr} (h:HeP t s t.rts.length):y3l t s=true:=by
 unfold y3l;rw[laT];exact fun a ha=>h a (List.mem_range.1 ha)
theorem j1j {t:Tab} {s:Itr} {k:Nat} (h:HeP t s k) (hq:(z5k t (z0w t k) (z1g s k)).all (z5j t s)=true):HeP t s (k+1):=fun i hi=>by
 by_cases he:i=k
 ·subst he;exact hq
 ·exact h i (by omega)
theorem j8h {t:Tab} {s:Itr} {k:Nat} (hk:k < t.rts.length) (hx:(z5k t (z0w t k) (z1g s k)).all (z5j t s)=false):y3l t s=false:=by
 cases h:y3l t s with
 | false=>rfl
 | true=>
  unfold y3l at h;rw[laT] at h;have h2:=h k (List.mem_range.2 hk);rw[hx] at h2;cases h2
def LiQ (t:Tab) (s:Itr) (l:List Stg) (k:Nat):Prop:=(l.take k).all (z5j t s)=true
theorem x63 {t:Tab} {r:Rou} {s:RSt} {x:Stg} (h:x∈z5k t r s):x∈r.pts++(r.opts++r.flk):=by
 unfold z5k at h;split at h
 ·cases h
 ·have h1:=z1z.1 h;simp only[j4l,mAp,List.mem_filter] at h1 ⊢;rcases h1 with h1 | h1
  ·exact Or.inl h1.1
  ·exact Or.inr h1
theorem y0o (r:Rou):(z1t r).length≤r.pts.length+(r.opts.length+r.flk.length):=by
 unfold z1t;refine nR (z4r _) ?_;rw[(z1k _).length_eq,qL,qL];omega
theorem x1x {t:Tab} {r:Rou} {s:RSt}:(z5k t r s).length≤r.pts.length+(r.opts.length+r.flk.length):=by
 unfold z5k;split
 ·exact nZ
 ·refine nR (y0o _) ?_;have:=List.length_filter_le (fun x:Stg=>!decide (x7a t (plF t x.el)∈r.secs.take s.rel.toNat)) r.pts;simp only[j4l];omega
theorem x3k {t:Tab} {s:Itr} {x:Stg} {j:Nat} (h:plF t x.el=j) (hj:j < s.lies.length):z5j t s x=decide (s.lies[j]=x.pos):=by
 unfold z5j;rw[h];simp[List.getD,hj]
theorem y65 (v:z1q) (u:z1r) (w:World) (hr:TvR w v) (hs:y1a w u) (hS:y4e v.t):Calls Tryz.prog 23 #[.agg (z0s v),.agg (z1u u)] w fun e w'=>e=.returned (.bool (z7t v.t u.i))∧Below w.heap.size w w':=by
 obtain ⟨i0,hi,hy0,hy1,hy2⟩:=info_parts x4m;obtain ⟨W2,hW2⟩:∃ W,W=(w.alloc (.cells (z0s v) 33)).alloc (.cells (z1u u) 41):=⟨_,rfl⟩
 have hb2:Below w.heap.size w W2:=by rw[hW2];exact (bQ.alloc nL _).alloc (by simp) _
 have hx0:Blk W2 w.heap.size 33 (z0s v):=by rw[hW2];exact (Blk.new _ _ _ _ rfl).alloc _
 have hx1:Blk W2 (w.heap.size+1) 41 (z1u u):=by rw[hW2];exact Blk.new _ _ _ _ (by simp)
 have HFT:=hE (fits_any v u W2 (hr.now hb2) (hs.now hb2) hS.ok);have hn1:=hs.n1.1;have hn2:=hs.n2.1;have hm1:=hr.n1.1;unfold maxLen at hn1 hn2 hm1;obtain ⟨ft,hft⟩:∃ c,y0z v.t u.i=c:=⟨_,rfl⟩
 rw[hft] at HFT;have HS:=hE hS;clear hS;go_enter Tryz.func23,Tryz.ntmps23
 go_wp2_with fail;rw[←hW2];clear hW2;refine HFT.out.mono ?_;rintro e w3 ⟨rfl,hq3⟩;have hb3:=z00 hb2 hb2.size hq3;have hx03:=hx0.now hq3;have hx13:=hx1.now hq3;clear hx0 hx1 hb2 HFT hq3
 cases ft with
 | false=>
  have HX:Hid (z7t v.t u.i=false):=hE (by unfold z7t;rw[hft];rfl);clear hft hx03 hx13;go_wp2_with fail
  go_ret
  exact ⟨z0a HX.out.symm,hb3⟩
 | true=>
 have HF:=hE (z9x hft);have HSN:Hid (z7t v.t u.i=(apartB v.t u.i && y3l v.t u.i)):=hE (by unfold z7t;rw[hft];rfl);have hnr:v.t.rts.length≤48:=(y0r HF.out.chk).nr;have x0:=hx03.cell 0;have x1:=hx03.cell 1;have y0:=hx13.cell 0;have y1:=hx13.cell 1;have l0:=hx03.lt;have l1:=hx13.lt;simp only[gqA,gqZ,gqS] at x0 x1 y0 y1;have hsz3:=hb3.size;have hlow3:=y9n.nil (cL cPr) w3 w.heap.size 170 116 hsz3;clear hft;go_wp2_with fail
 clear x0 x1 y0 y1 l0 l1;go_loopw [5,21] (fun a i wr=>∃ k:Nat,k≤v.t.rts.length∧i=.int .i64 k∧y9n (cL cPr) wr w.heap.size 170 116 a (y6f v.t u.i k)∧Below w.heap.size w wr∧Blk wr w.heap.size 33 (z0s v)∧Blk wr (w.heap.size+1) 41 (z1u u)) (fun _ i _=>v.t.rts.length - (intOf i).toNat)
 case atStart=>exact ⟨0,nZ,rfl,hlow3,hb3,hx03,hx13⟩
 case round=>
  obtain ⟨k,hkl,rfl,hlow,hb,hxt,hxi⟩:=hrel;clear hlow3 hb3 hx03 hx13 hsz3;by_cases hlt:k < v.t.rts.length
  ·have hki:(k:Int) < (v.t.rts.length:Int):=by omega
   have hltu:k < u.i.rts.length:=by rw[HF.out.l1];exact hlt
   have hkiu:(k:Int) < (u.i.rts.length:Int):=by omega
   obtain ⟨bS,offS,hAS,lbS,hoS,z0,z1,z2⟩:=(hs.now hb).r1.elX hltu;obtain ⟨b2,off2,rv,hA2,lb2,hre,hrv,q0,q1,q2,q3,q4,q5,q6,q7,q8,q9,q10,q11,q12,q13⟩:=(hr.now hb).r1.elR hlt;have lbS0:bS < w.heap.size:=by obtain ⟨b',off',h1,h2,-⟩:=hs.r1.elX hltu;rw[hAS] at h1;simp only[qE,Addr.mk.injEq,and_true] at h1;rw[h1.1];exact h2
   have hsec:=HS.out _ (uE hlt);have hfit:=HF.out.st k hltu hlt;have hpos:=z4k HF.out.chk hlt;have HST:Hid (y6f v.t u.i (k+1)=y6f v.t u.i k++[z3i rv.r u.i.rts[k]]):=hE (by rw[x3g,z3m hlt,z7b hltu,hre]);rw[←hre] at hsec hfit hpos;have hrel:=y5y hfit hpos;clear hre;generalize u.i.rts[k]=x at *;have hlkl:=z7j v.t u.i k;have hacl:(y6f v.t u.i k).length≤48:=by rw[hlkl];omega
   generalize y6f v.t u.i k=acc at *;obtain ⟨W6,hW6⟩:∃ W,W=wr.alloc (.cells (z0f rv) 56):=⟨_,rfl⟩
   have hbe6:Below wr.heap.size wr W6:=by rw[hW6];exact bQ.alloc nL _
   have hxr:Blk W6 wr.heap.size 56 (z0f rv):=by rw[hW6];exact Blk.new _ _ _ _ rfl
   have hb6:=z00 hb hb.size hbe6;have hxi6:=hxi.now hbe6;have hxt6:=hxt.now hbe6;have hlow6:=hlow.now hbe6;have HLC:=hE fun W' (h:Below W6.heap.size W6 W')=>z8e rv x W' ((hrv.now hbe6).now h) hrel (by have:=hsec.n3;omega) (by have:=hsec.n6;omega)
   have hlen:(z3i rv.r x).length≤60000:=by have:=y78 rv.r x;have:=hsec.n3;have:=hsec.n6;omega
   have ZZ:=hE (aIq z0 (aIq z1 z2));have lbSr:bS < wr.heap.size:=lbS;have hZ:Hid (∀ W,Below w.heap.size w W→W.cell? ⟨bS,offS+k*3,none⟩=some (.int .i64 x.st)∧W.cell? ⟨bS,offS+k*3+1,none⟩=some (.int .i64 x.rel)∧W.cell? ⟨bS,offS+k*3+2,none⟩=some (.int .i64 x.tim)):=hE fun W h=>⟨(h.cell (p:=⟨bS,offS+k*3,none⟩) lbS0).trans ((hb.cell (p:=⟨bS,offS+k*3,none⟩) lbS0).symm.trans ZZ.out.1),(h.cell (p:=⟨bS,offS+k*3+1,none⟩) lbS0).trans ((hb.cell (p:=⟨bS,offS+k*3+1,none⟩) lbS0).symm.trans ZZ.out.2.1),(h.cell (p:=⟨bS,offS+k*3+2,none⟩) lbS0).trans ((hb.cell (p:=⟨bS,offS+k*3+2,none⟩) lbS0).symm.trans ZZ.out.2.2)⟩
   rw[hA2];have HSS:Hid (∀ W,Blk W wr.heap.size 56 (z0f rv)→Blk W (w.heap.size+1) 41 (z1u u)→Below w.heap.size w W→(fun w'=>w'.cell? ⟨wr.heap.size,0,none⟩=some (.string (bs rv.r.name))∧w'.cell? ⟨wr.heap.size,1,none⟩=some (.int .i64 rv.r.ent)∧w'.cell? ⟨wr.heap.size,2,none⟩=some (.int .i64 rv.r.ext)∧w'.cell? ⟨wr.heap.size,3,none⟩=some (.slice rv.A1 rv.r.path.length rv.c1)∧w'.cell? ⟨wr.heap.size,4,none⟩=some (.slice rv.A2 rv.r.pts.length rv.c2)∧w'.cell? ⟨wr.heap.size,5,none⟩=some (.slice rv.A3 rv.r.secs.length rv.c3)∧w'.cell? ⟨wr.heap.size,6,none⟩=some (.int .i64 rv.r.app)∧w'.cell? ⟨wr.heap.size,7,none⟩=some (.int .i64 rv.r.len)∧w'.cell? ⟨wr.heap.size,8,none⟩=some (.slice rv.A4 rv.r.over.length rv.c4)∧w'.cell? ⟨wr.heap.size,9,none⟩=some (.slice rv.A5 rv.r.opts.length rv.c5)∧w'.cell? ⟨wr.heap.size,10,none⟩=some (.slice rv.A6 rv.r.osecs.length rv.c6)∧w'.cell? ⟨wr.heap.size,11,none⟩=some (.slice rv.A7 rv.r.flk.length rv.c7)∧w'.cell? ⟨wr.heap.size,12,none⟩=some (.slice rv.A8 rv.r.grd.length rv.c8)∧w'.cell? ⟨wr.heap.size,13,none⟩=some (.slice rv.A9 rv.r.gap.length rv.c9)∧w'.cell? ⟨w.heap.size+1,0,none⟩=some (.slice (some ⟨bS,offS,none⟩) u.i.rts.length u.c1)∧w'.cell? ⟨bS,offS+k*3,none⟩=some (.int .i64 x.st)∧w'.cell? ⟨bS,offS+k*3+1,none⟩=some (.int .i64 x.rel)∧w'.cell? ⟨bS,offS+k*3+2,none⟩=some (.int .i64 x.tim)) W):=hE fun W h1 h2 h3=>⟨h1.cell 0,h1.cell 1,h1.cell 2,h1.cell 3,h1.cell 4,h1.cell 5,h1.cell 6,h1.cell 7,h1.cell 8,h1.cell 9,h1.cell 10,h1.cell 11,h1.cell 12,h1.cell 13,(h2.cell 0).trans (by unfold z1u;rw[hAS];rfl),hZ.out W h3⟩
   have HA2:=hE hA2;clear ZZ hA2 hAS;go_wp2_with fail
   rw[←hW6];clear hW6 z0 z1 z2 q0 q1 q2 q3 q4 q5 q6 q7 q8 q9 q10 q11 q12 q13 hlow hxi hxt hrv;refine rgH 11 (S:=(fun w'=>w'.cell? ⟨wr.heap.size,0,none⟩=some (.string (bs rv.r.name))∧w'.cell? ⟨wr.heap.size,1,none⟩=some (.int .i64 rv.r.ent)∧w'.cell? ⟨wr.heap.size,2,none⟩=some (.int .i64 rv.r.ext)∧w'.cell? ⟨wr.heap.size,3,none⟩=some (.slice rv.A1 rv.r.path.length rv.c1)∧w'.cell? ⟨wr.heap.size,4,none⟩=some (.slice rv.A2 rv.r.pts.length rv.c2)∧w'.cell? ⟨wr.heap.size,5,none⟩=some (.slice rv.A3 rv.r.secs.length rv.c3)∧w'.cell? ⟨wr.heap.size,6,none⟩=some (.int .i64 rv.r.app)∧w'.cell? ⟨wr.heap.size,7,none⟩=some (.int .i64 rv.r.len)∧w'.cell? ⟨wr.heap.size,8,none⟩=some (.slice rv.A4 rv.r.over.length rv.c4)∧w'.cell? ⟨wr.heap.size,9,none⟩=some (.slice rv.A5 rv.r.opts.length rv.c5)∧w'.cell? ⟨wr.heap.size,10,none⟩=some (.slice rv.A6 rv.r.osecs.length rv.c6)∧w'.cell? ⟨wr.heap.size,11,none⟩=some (.slice rv.A7 rv.r.flk.length rv.c7)∧w'.cell? ⟨wr.heap.size,12,none⟩=some (.slice rv.A8 rv.r.grd.length rv.c8)∧w'.cell? ⟨wr.heap.size,13,none⟩=some (.slice rv.A9 rv.r.gap.length rv.c9)∧w'.cell? ⟨w.heap.size+1,0,none⟩=some (.slice (some ⟨bS,offS,none⟩) u.i.rts.length u.c1)∧w'.cell? ⟨bS,offS+k*3,none⟩=some (.int .i64 x.st)∧w'.cell? ⟨bS,offS+k*3+1,none⟩=some (.int .i64 x.rel)∧w'.cell? ⟨bS,offS+k*3+2,none⟩=some (.int .i64 x.tim))) (HSS.out _ hxr.drew hxi6.drew hb6.drew) fun hHeld=>?_
   refine tkM 7 [0,1,2,3,4,5,6] ?_;refine rd1 7 rfl fun K hK=>?_
   go_simp;go_at_call 57
   refine (HLC.out _ bQ.drew).mono ?_;rintro e w7 ⟨A7,c7,rfl,ho7,hq7⟩;have hq7':Below W6.heap.size W6 w7:=bQ.drew.trans hq7;go_wp2_with fail
   refine hK.out _ _ (HSS.out _ (hxr.now hq7') (hxi6.now hq7') (z00 hb6 hb6.size hq7')) (fun hHeld=>?_);clear hK K;try simp only[Act.put,lsa,lsz,lss]
   have hq8:Below W6.heap.size W6 (w7.alloc (.cells #[.slice A7 (z3i rv.r x).length c7] 116)):=hq7'.alloc hq7'.size _;refine rd1 8 rfl fun K hK=>?_
   go_simp;refine hK.out _ _ (HSS.out _ (hxr.now hq8) (hxi6.now hq8) (z00 hb6 hb6.size hq8)) (fun hHeld=>?_);clear hK K;try simp only[Act.put,lsa,lsz,lss]
   have hlow8:=hlow6.now hq8;have ho8:=ho7.alloc (.cells #[.slice A7 (z3i rv.r x).length c7] 116);have hrd8:=k06 ho8;have hbx8:Blk (w7.alloc (.cells #[.slice A7 (z3i rv.r x).length c7] 116)) w7.heap.size 116 #[.slice A7 (z3i rv.r x).length c7]:=Blk.new _ _ _ _ rfl;refine rd1 9 rfl fun K hK=>?_
   refine z0b (c:=cL cPr) rfl _ _ 115 rfl w.heap.size 116 i0 _ 24 Tryz.underlying115 hi hy0 hy1 hy2 rfl (by decide) (InT (w7.alloc (.cells #[.slice A7 (z3i rv.r x).length c7] 116)) 170) _ acc rfl hlow8 (hlow8.apart (by decide)) [.slice A7 (z3i rv.r x).length c7] (z3i rv.r x) hrd8 (fun u hu=>by (simp at hu;subst hu;rfl)) ⟨w7.heap.size,0,none⟩ 1 rfl (fun j u hj=>by (rw[z0h];exact z0e hbx8 j u hj)) (by omega) (by omega) ?_;intro v9 w9 hl9 hf9 _;obtain ⟨A9,c9,hv9⟩:=hl9.form;rw[qL,hlkl] at hv9;subst hv9;have hb9:Below w.heap.size w w9:=hf9.keeps nL (z00 hb6 hb6.size hq8).size (z00 hb6 hb6.size hq8);have hxi9:=hf9.blk (hxi6.now hq8) (by decide);have hxr9:=hf9.blk (hxr.now hq8) (by decide);have hxt9:=hf9.blk (hxt6.now hq8) (by decide);have hlow9:y9n (cL cPr) w9 w.heap.size 170 116 (.slice A9 (k+1) c9) (acc++[z3i rv.r x]):=z2i.more hl9 fun b hb=>hb.frm hf9 (by decide)
   refine hK.out _ _ (HSS.out _ hxr9 hxi9 hb9) (fun hHeld=>?_);clear hK K;try simp only[Act.put,lsa,lsz,lss]
   refine tkM 1 [10] ?_;refine wdn ?_;clear HSS HLC hZ hq7 hq7' hq8 hHeld hbe6 hxr hxr9 hxi6 hxt6 hb6 hlow6 hlow8 ho7 ho8 hrd8 hbx8 hl9 hf9 hb;go_wp2_with fail
   go_roundw
   case rel=>
    have hk1:k+1≤v.t.rts.length:=hlt;refine ⟨k+1,hk1,by go_num,?_,hb9,hxt9,hxi9⟩;rw[HST.out];exact hlow9
   case measure=>simp[intOf];omega
  ·have hki:¬(k:Int) < (v.t.rts.length:Int):=by omega
   have hkn:k=v.t.rts.length:=by omega
   rename World=>w5
   subst hkn;obtain ⟨A5,c5,hv5⟩:=z2i.form hlow;rw[hv5] at hlow;have HALL:=hE (y9n.rd hlow).2;rw[z7j] at hv5;subst hv5;clear hlow hkl;have HBX:=hE fun W' (h:Below w5.heap.size w5 W')=>aIq (hxt.now h) (hxi.now h)
   have x0:=hxt.cell 0;have lx0:=hxt.lt;simp only[gqA,gqZ,gqS] at x0;clear hxt hxi;go_wp2_with fail
   clear x0 lx0;go_loopw [40] (fun i wq=>∃ a:Nat,a≤v.t.rts.length∧i=.int .i64 a∧Below w5.heap.size w5 wq∧Hid (ApP v.t u.i a)) (fun i _=>v.t.rts.length - (intOf i).toNat)
   case atStart=>exact ⟨0,nZ,rfl,bQ,hE fun a ha=>absurd ha (Nat.not_lt_zero _)⟩
   case round=>
    rename World=>wq
    obtain ⟨a,hal,rfl,hbq,HA⟩:=hrel;by_cases hlta:a < v.t.rts.length
    ·have hai:(a:Int) < (v.t.rts.length:Int):=by omega
     go_wp2_with fail;go_loopw [44] (fun i wz=>∃ b:Nat,b≤a∧i=.int .i64 b∧Below w5.heap.size w5 wz∧Hid (ApQ v.t u.i a b)) (fun i _=>a - (intOf i).toNat)
     case atStart=>exact ⟨0,nZ,rfl,hbq,hE fun b hb=>absurd hb (Nat.not_lt_zero _)⟩
     case round=>
      rename World=>wz
      obtain ⟨b,hbl,rfl,hbz,HQ⟩:=hrel;clear hbq;by_cases hltb:b < a
      ·have hbi:(b:Int) < (a:Int):=by omega
       have hltb2:b < v.t.rts.length:=by omega
       have hbi2:(b:Int) < (v.t.rts.length:Int):=by omega
       have hbwz:=z00 hb hb.size hbz;obtain ⟨b2,off2,ra,hA2,lb2,hrea,hrva,q0,q1,q2,q3,q4,q5,q6,q7,q8,q9,q10,q11,q12,q13⟩:=(hr.now hbwz).r1.elR hlta;obtain ⟨b3,off3,rb,hA3,lb3,hreb,hrvb,r0,r1,r2,r3,r4,r5,r6,r7,r8,r9,r10,r11,r12,r13⟩:=(hr.now hbwz).r1.elR hltb2;obtain ⟨pa,hpa⟩:∃ p,off2+a*14=p:=⟨_,rfl⟩
       rw[hpa] at q0 q1 q2 q3 q4 q5 q6 q7 q8 q9 q10 q11 q12 q13;rw[hA2] at hA3;simp only[qE,Addr.mk.injEq,and_true] at hA3;obtain ⟨rfl,rfl⟩:=hA3;obtain ⟨pb,hpb⟩:∃ p,off2+b*14=p:=⟨_,rfl⟩
       rw[hpb] at r0 r1 r2 r3 r4 r5 r6 r7 r8 r9 r10 r11 r12 r13;have hall:=(HALL.out.now hbz)
       have hla:a < (y6f v.t u.i v.t.rts.length).length:=by rw[z7j];exact hlta
       have hlb:b < (y6f v.t u.i v.t.rts.length).length:=by rw[z7j];exact hltb2
       obtain ⟨bA,offA,Aa,ca,hAA,lbA,za,na,hrda⟩:=j8f hall hla;obtain ⟨bB,offB,Ab,cb,hAB,lbB,zb,nb,hrdb⟩:=j8f hall hlb;rw[hAA] at hAB;simp only[qE,Addr.mk.injEq,and_true] at hAB;obtain ⟨rfl,rfl⟩:=hAB;rw[x3e hla] at za na hrda;rw[x3e hlb] at zb nb hrdb;obtain ⟨cl,hcl⟩:∃ c,y6r (z0w v.t a) (z0w v.t b) (z3i (z0w v.t a) (z1g u.i a)) (z3i (z0w v.t b) (z1g u.i b))=c:=⟨_,rfl⟩
       have HCL:Hid (∀ W',Below wz.heap.size wz W'→Calls Tryz.prog 58 #[.agg (z0f ra),.agg (z0f rb),.slice Aa (z3i (z0w v.t a) (z1g u.i a)).length ca,.slice Ab (z3i (z0w v.t b) (z1g u.i b)).length cb] W' fun e w'=>e=.returned (.bool cl)∧Below W'.heap.size W' w'):=hE fun W' h=>by
        refine (y4j ra rb _ _ Aa Ab ca cb W' (hrva.now h) (hrvb.now h) (hrda.now h) (hrdb.now h) na.1 nb.1).mono ?_;rintro e w' ⟨rfl,hq⟩;refine ⟨z0a ?_,hq⟩;rw[hrea,hreb,←z3m hlta,←z3m hltb2,hcl]
       have HCL2:=hE hcl;generalize (z3i (z0w v.t a) (z1g u.i a)).length=na1 at *;generalize (z3i (z0w v.t b) (z1g u.i b)).length=nb1 at *;obtain ⟨bxt,bxi⟩:=HBX.out wz hbz;have lxt:=bxt.lt;have hAlen:((y6f v.t u.i v.t.rts.length).length)=v.t.rts.length:=z7j _ _ _;rw[hAA];have l2':b2 < wz.heap.size:=lb2;have lA':bA < wz.heap.size:=lbA;have HSS:Hid (∀ W,Below wz.heap.size wz W→(fun w'=>w'.cell? ⟨w.heap.size,0,none⟩=some (.slice (some ⟨b2,off2,none⟩) v.t.rts.length v.c1)∧w'.cell? ⟨b2,pa,none⟩=some (.string (bs ra.r.name))∧w'.cell? ⟨b2,pa+1,none⟩=some (.int .i64 ra.r.ent)∧w'.cell? ⟨b2,pa+2,none⟩=some (.int .i64 ra.r.ext)∧w'.cell? ⟨b2,pa+3,none⟩=some (.slice ra.A1 ra.r.path.length ra.c1)∧w'.cell? ⟨b2,pa+4,none⟩=some (.slice ra.A2 ra.r.pts.length ra.c2)∧w'.cell? ⟨b2,pa+5,none⟩=some (.slice ra.A3 ra.r.secs.length ra.c3)∧w'.cell? ⟨b2,pa+6,none⟩=some (.int .i64 ra.r.app)∧w'.cell? ⟨b2,pa+7,none⟩=some (.int .i64 ra.r.len)∧w'.cell? ⟨b2,pa+8,none⟩=some (.slice ra.A4 ra.r.over.length ra.c4)∧w'.cell? ⟨b2,pa+9,none⟩=some (.slice ra.A5 ra.r.opts.length ra.c5)∧w'.cell? ⟨b2,pa+10,none⟩=some (.slice ra.A6 ra.r.osecs.length ra.c6)∧w'.cell? ⟨b2,pa+11,none⟩=some (.slice ra.A7 ra.r.flk.length ra.c7)∧w'.cell? ⟨b2,pa+12,none⟩=some (.slice ra.A8 ra.r.grd.length ra.c8)∧w'.cell? ⟨b2,pa+13,none⟩=some (.slice ra.A9 ra.r.gap.length ra.c9)∧w'.cell? ⟨b2,pb,none⟩=some (.string (bs rb.r.name))∧w'.cell? ⟨b2,pb+1,none⟩=some (.int .i64 rb.r.ent)∧w'.cell? ⟨b2,pb+2,none⟩=some (.int .i64 rb.r.ext)∧w'.cell? ⟨b2,pb+3,none⟩=some (.slice rb.A1 rb.r.path.length rb.c1)∧w'.cell? ⟨b2,pb+4,none⟩=some (.slice rb.A2 rb.r.pts.length rb.c2)∧w'.cell? ⟨b2,pb+5,none⟩=some (.slice rb.A3 rb.r.secs.length rb.c3)∧w'.cell? ⟨b2,pb+6,none⟩=some (.int .i64 rb.r.app)∧w'.cell? ⟨b2,pb+7,none⟩=some (.int .i64 rb.r.len)∧w'.cell? ⟨b2,pb+8,none⟩=some (.slice rb.A4 rb.r.over.length rb.c4)∧w'.cell? ⟨b2,pb+9,none⟩=some (.slice rb.A5 rb.r.opts.length rb.c5)∧w'.cell? ⟨b2,pb+10,none⟩=some (.slice rb.A6 rb.r.osecs.length rb.c6)∧w'.cell? ⟨b2,pb+11,none⟩=some (.slice rb.A7 rb.r.flk.length rb.c7)∧w'.cell? ⟨b2,pb+12,none⟩=some (.slice rb.A8 rb.r.grd.length rb.c8)∧w'.cell? ⟨b2,pb+13,none⟩=some (.slice rb.A9 rb.r.gap.length rb.c9)∧w'.cell? ⟨bA,offA+a,none⟩=some (.slice Aa na1 ca)∧w'.cell? ⟨bA,offA+b,none⟩=some (.slice Ab nb1 cb)∧Below wz.heap.size wz w') W):=hE fun W h=>⟨(h.cell (p:=⟨w.heap.size,0,none⟩) lxt).trans ((bxt.cell 0).trans (by unfold z0s;rw[hA2];rfl)),(h.cell (p:=⟨b2,pa,none⟩) l2').trans (q0),(h.cell (p:=⟨b2,pa+1,none⟩) l2').trans (q1),(h.cell (p:=⟨b2,pa+2,none⟩) l2').trans (q2),(h.cell (p:=⟨b2,pa+3,none⟩) l2').trans (q3),(h.cell (p:=⟨b2,pa+4,none⟩) l2').trans (q4),(h.cell (p:=⟨b2,pa+5,none⟩) l2').trans (q5),(h.cell (p:=⟨b2,pa+6,none⟩) l2').trans (q6),(h.cell (p:=⟨b2,pa+7,none⟩) l2').trans (q7),(h.cell (p:=⟨b2,pa+8,none⟩) l2').trans (q8),(h.cell (p:=⟨b2,pa+9,none⟩) l2').trans (q9),(h.cell (p:=⟨b2,pa+10,none⟩) l2').trans (q10),(h.cell (p:=⟨b2,pa+11,none⟩) l2').trans (q11),(h.cell (p:=⟨b2,pa+12,none⟩) l2').trans (q12),(h.cell (p:=⟨b2,pa+13,none⟩) l2').trans (q13),(h.cell (p:=⟨b2,pb,none⟩) l2').trans (r0),(h.cell (p:=⟨b2,pb+1,none⟩) l2').trans (r1),(h.cell (p:=⟨b2,pb+2,none⟩) l2').trans (r2),(h.cell (p:=⟨b2,pb+3,none⟩) l2').trans (r3),(h.cell (p:=⟨b2,pb+4,none⟩) l2').trans (r4),(h.cell (p:=⟨b2,pb+5,none⟩) l2').trans (r5),(h.cell (p:=⟨b2,pb+6,none⟩) l2').trans (r6),(h.cell (p:=⟨b2,pb+7,none⟩) l2').trans (r7),(h.cell (p:=⟨b2,pb+8,none⟩) l2').trans (r8),(h.cell (p:=⟨b2,pb+9,none⟩) l2').trans (r9),(h.cell (p:=⟨b2,pb+10,none⟩) l2').trans (r10),(h.cell (p:=⟨b2,pb+11,none⟩) l2').trans (r11),(h.cell (p:=⟨b2,pb+12,none⟩) l2').trans (r12),(h.cell (p:=⟨b2,pb+13,none⟩) l2').trans (r13),(h.cell (p:=⟨bA,offA+a,none⟩) lA').trans (za),(h.cell (p:=⟨bA,offA+b,none⟩) lA').trans (zb),h⟩
       clear bxt bxi lxt hAA hA2 l2' lA' q0 q1 q2 q3 q4 q5 q6 q7 q8 q9 q10 q11 q12 q13 r0 r1 r2 r3 r4 r5 r6 r7 r8 r9 r10 r11 r12 r13 za zb na nb hrda hrdb hrva hrvb hrea hreb hall hcl hAlen lb2 lbA lbB lb3;go_wp2_with fail
       refine rgS 19 HSS fun hHeld=>?_
       refine tkM 18 [0,1,2,3,4,5,6,7,8,9,10,11,12,13,14,15,16,17] ?_;refine rd1 18 rfl fun K hK=>?_
       go_simp;go_at_call 58
       refine (HCL.out _ bQ.drew).mono ?_;rintro e w7 ⟨rfl,hq7⟩;have hq7':Below wz.heap.size wz w7:=bQ.drew.trans hq7;go_wp2_with fail
       refine hK.out _ _ (HSS.out _ hq7') (fun hHeld=>?_);clear hK K;try simp only[Act.put,lsa,lsz,lss]
       refine wdn ?_;have hb7:=z00 hbz hbz.size hq7';have hbb7:=z00 hb hb.size hb7;clear HSS HCL hq7 hq7' hHeld hbz hbwz
       cases cl with
       | true=>
        have HX:Hid (z7t v.t u.i=false):=hE (by rw[HSN.out,j7z hlta hltb HCL2.out];rfl);go_wp2_with fail
        go_ret
        exact ⟨z0a HX.out.symm,hbb7⟩
       | false=>
        have HX:Hid (ApQ v.t u.i a (b+1)):=hE fun b' hb'=>by
         by_cases he:b' = b
         ·rw[he];exact HCL2.out
         ·exact HQ.out b' (by omega)
        go_wp2_with fail;go_roundw
        case rel=>
         have hk1:b+1≤a:=hltb;refine ⟨b+1,hk1,by go_num,hb7,?_⟩;exact HX
        case measure=>simp[intOf];omega
      ·have hbi:¬(b:Int) < (a:Int):=by omega
       have hba:b=a:=by omega
       subst hba;have HX:Hid (ApP v.t u.i (b+1)):=hE (j0i HA.out HQ.out);go_wp2_with fail
       go_roundw
       case rel=>
        have hk1:b+1≤v.t.rts.length:=hlta;refine ⟨b+1,hk1,by go_num,hbz,?_⟩;exact HX
       case measure=>simp[intOf];omega
    ·have hai:¬(a:Int) < (v.t.rts.length:Int):=by omega
     have HSN2:Hid (z7t v.t u.i=y3l v.t u.i):=hE (by
      have h1:=HA.out;rw[show a=v.t.rts.length by omega] at h1;rw[HSN.out,j4w h1];rfl)
     clear HSN HA HALL;obtain ⟨bxt,bxi⟩:=HBX.out wq hbq;have u0:=bxt.cell 0;have lu:=bxt.lt;simp only[gqA,gqZ,gqS] at u0;clear bxt bxi;go_wp2_with fail
     clear u0 lu;go_loopw [71] (fun i wx=>∃ k:Nat,k≤v.t.rts.length∧i=.int .i64 k∧Below w5.heap.size w5 wx∧Hid (HeP v.t u.i k)) (fun i _=>v.t.rts.length - (intOf i).toNat)
     case atStart=>exact ⟨0,nZ,rfl,hbq,hE fun a ha=>absurd ha (Nat.not_lt_zero _)⟩
     case round=>
      rename World=>wx
      obtain ⟨k,hkl,rfl,hbx,HH⟩:=hrel;clear hbq;have hbwx:=z00 hb hb.size hbx;by_cases hltk:k < v.t.rts.length
      ·have hki2:(k:Int) < (v.t.rts.length:Int):=by omega
       have hltu:k < u.i.rts.length:=by rw[HF.out.l1];exact hltk
       have hkiu:(k:Int) < (u.i.rts.length:Int):=by omega
       obtain ⟨bS,offS,hAS,lbS,hoS,z0,z1,z2⟩:=(hs.now hbwx).r1.elX hltu;obtain ⟨b2,off2,rv,hA2,lb2,hre,hrv,q0,q1,q2,q3,q4,q5,q6,q7,q8,q9,q10,q11,q12,q13⟩:=(hr.now hbwx).r1.elR hltk;have hsec:=HS.out _ (uE hltk);have hfit:=HF.out.st k hltu hltk;have hpos:=z4k HF.out.chk hltk;have hmem:rv.r∈v.t.rts:=by rw[hre];exact uE hltk
       have HBL:Hid (z5k v.t (z0w v.t k) (z1g u.i k)=z5k v.t rv.r u.i.rts[k]):=hE (by rw[z3m hltk,z7b hltu,hre]);rw[←hre] at hsec hfit hpos;have hrel:=y5y hfit hpos;clear hre;generalize u.i.rts[k]=x at *;obtain ⟨W6,hW6⟩:∃ W,W=wx.alloc (.cells (z0f rv) 56):=⟨_,rfl⟩
       have hbe6:Below wx.heap.size wx W6:=by rw[hW6];exact bQ.alloc nL _
       have hxr:Blk W6 wx.heap.size 56 (z0f rv):=by rw[hW6];exact Blk.new _ _ _ _ rfl
       have hb6:=z00 hbx hbx.size hbe6;obtain ⟨bxt,bxi⟩:=HBX.out W6 hb6;have hbw6:=z00 hb hb.size hb6;have HBD:=hE fun W' (h:Below W6.heap.size W6 W')=>y4i v rv x W' (hr.now (z00 hbw6 hbw6.size h)) ((hrv.now hbe6).now h) HF.out.chk hmem hsec hrel
       have hblen:(z5k v.t rv.r x).length≤90000:=by have:=x1x (t:=v.t) (r:=rv.r) (s:=x);have:=hsec.n2;have:=hsec.n5;have:=hsec.n7;omega
       have HMM:Hid (∀ y∈z5k v.t rv.r x,y.el∈v.t.pts):=hE fun y hy=>((y0r HF.out.chk).stg _ hmem y (x63 hy)).1
       have lxr:=hxr.lt;have lxt:=bxt.lt;have lxi:=bxi.lt;have lbS6:bS < W6.heap.size:=nT lbS hbe6.size;have c0:=(hbe6.cell (p:=⟨bS,offS+k*3,none⟩) lbS).trans z0;have c1:=(hbe6.cell (p:=⟨bS,offS+k*3+1,none⟩) lbS).trans z1;have c2:=(hbe6.cell (p:=⟨bS,offS+k*3+2,none⟩) lbS).trans z2;have lb2':b2 < wx.heap.size:=lb2;rw[hA2];have HSS:Hid (∀ W,Below W6.heap.size W6 W→(fun w'=>w'.cell? ⟨w.heap.size,0,none⟩=some (.slice v.A1 v.t.rts.length v.c1)∧w'.cell? ⟨w.heap.size,1,none⟩=some (.slice v.A2 v.t.pts.length v.c2)∧w'.cell? ⟨w.heap.size,2,none⟩=some (.slice v.A3 v.t.homes.length v.c3)∧w'.cell? ⟨w.heap.size,3,none⟩=some (.int .i64 v.t.nsec)∧w'.cell? ⟨w.heap.size,4,none⟩=some (.int .i64 v.t.nsig)∧w'.cell? ⟨wx.heap.size,0,none⟩=some (.string (bs rv.r.name))∧w'.cell? ⟨wx.heap.size,1,none⟩=some (.int .i64 rv.r.ent)∧w'.cell? ⟨wx.heap.size,2,none⟩=some (.int .i64 rv.r.ext)∧w'.cell? ⟨wx.heap.size,3,none⟩=some (.slice rv.A1 rv.r.path.length rv.c1)∧w'.cell? ⟨wx.heap.size,4,none⟩=some (.slice rv.A2 rv.r.pts.length rv.c2)∧w'.cell? ⟨wx.heap.size,5,none⟩=some (.slice rv.A3 rv.r.secs.length rv.c3)∧w'.cell? ⟨wx.heap.size,6,none⟩=some (.int .i64 rv.r.app)∧w'.cell? ⟨wx.heap.size,7,none⟩=some (.int .i64 rv.r.len)∧w'.cell? ⟨wx.heap.size,8,none⟩=some (.slice rv.A4 rv.r.over.length rv.c4)∧w'.cell? ⟨wx.heap.size,9,none⟩=some (.slice rv.A5 rv.r.opts.length rv.c5)∧w'.cell? ⟨wx.heap.size,10,none⟩=some (.slice rv.A6 rv.r.osecs.length rv.c6)∧w'.cell? ⟨wx.heap.size,11,none⟩=some (.slice rv.A7 rv.r.flk.length rv.c7)∧w'.cell? ⟨wx.heap.size,12,none⟩=some (.slice rv.A8 rv.r.grd.length rv.c8)∧w'.cell? ⟨wx.heap.size,13,none⟩=some (.slice rv.A9 rv.r.gap.length rv.c9)∧w'.cell? ⟨w.heap.size+1,0,none⟩=some (.slice (some ⟨bS,offS,none⟩) u.i.rts.length u.c1)∧w'.cell? ⟨bS,offS+k*3,none⟩=some (.int .i64 x.st)∧w'.cell? ⟨bS,offS+k*3+1,none⟩=some (.int .i64 x.rel)∧w'.cell? ⟨bS,offS+k*3+2,none⟩=some (.int .i64 x.tim)∧Below W6.heap.size W6 w') W):=hE fun W h=>⟨(h.cell (p:=⟨w.heap.size,0,none⟩) lxt).trans (bxt.cell 0),(h.cell (p:=⟨w.heap.size,1,none⟩) lxt).trans (bxt.cell 1),(h.cell (p:=⟨w.heap.size,2,none⟩) lxt).trans (bxt.cell 2),(h.cell (p:=⟨w.heap.size,3,none⟩) lxt).trans (bxt.cell 3),(h.cell (p:=⟨w.heap.size,4,none⟩) lxt).trans (bxt.cell 4),(h.cell (p:=⟨wx.heap.size,0,none⟩) lxr).trans (hxr.cell 0),(h.cell (p:=⟨wx.heap.size,1,none⟩) lxr).trans (hxr.cell 1),(h.cell (p:=⟨wx.heap.size,2,none⟩) lxr).trans (hxr.cell 2),(h.cell (p:=⟨wx.heap.size,3,none⟩) lxr).trans (hxr.cell 3),(h.cell (p:=⟨wx.heap.size,4,none⟩) lxr).trans (hxr.cell 4),(h.cell (p:=⟨wx.heap.size,5,none⟩) lxr).trans (hxr.cell 5),(h.cell (p:=⟨wx.heap.size,6,none⟩) lxr).trans (hxr.cell 6),(h.cell (p:=⟨wx.heap.size,7,none⟩) lxr).trans (hxr.cell 7),(h.cell (p:=⟨wx.heap.size,8,none⟩) lxr).trans (hxr.cell 8),(h.cell (p:=⟨wx.heap.size,9,none⟩) lxr).trans (hxr.cell 9),(h.cell (p:=⟨wx.heap.size,10,none⟩) lxr).trans (hxr.cell 10),(h.cell (p:=⟨wx.heap.size,11,none⟩) lxr).trans (hxr.cell 11),(h.cell (p:=⟨wx.heap.size,12,none⟩) lxr).trans (hxr.cell 12),(h.cell (p:=⟨wx.heap.size,13,none⟩) lxr).trans (hxr.cell 13),(h.cell (p:=⟨w.heap.size+1,0,none⟩) lxi).trans ((bxi.cell 0).trans (by unfold z1u;rw[hAS];rfl)),(h.cell (p:=⟨bS,offS+k*3,none⟩) lbS6).trans (c0),(h.cell (p:=⟨bS,offS+k*3+1,none⟩) lbS6).trans (c1),(h.cell (p:=⟨bS,offS+k*3+2,none⟩) lbS6).trans (c2),h⟩
       clear hA2 hAS z0 z1 z2 c0 c1 c2 lxr lxt lxi lbS6 bxt bxi hrv hmem hsec hfit hpos hrel hxr;go_wp2_with fail
       rw[←hW6];clear hW6 q0 q1 q2 q3 q4 q5 q6 q7 q8 q9 q10 q11 q12 q13 lb2 lb2' lbS hoS;refine rgS 10 HSS fun hHeld=>?_
       refine tkM 8 [0,1,2,3,4,5,6,9] ?_;refine rd1 7 rfl fun K hK=>?_
       go_simp;go_at_call 59
       refine (HBD.out _ bQ.drew).mono ?_;rintro e w7 ⟨A7,c7,rfl,ho7,hq7⟩;have hq7':Below W6.heap.size W6 w7:=bQ.drew.trans hq7;go_wp2_with fail
       refine hK.out _ _ (HSS.out _ hq7') (fun hHeld=>?_);clear hK K;try simp only[Act.put,lsa,lsz,lss]
       refine tkM 1 [8] ?_;refine wdn ?_;have hb7:=z00 hb6 hb6.size hq7';have hbw7:=z00 hb hb.size hb7;have ho77:=ho7.lower hbw6.size;have HRD:=hE (RdS.more ho7.rdn.2 fun b h=>h.2:RdS z3h w7 (Lt w7) A7 (z5k v.t rv.r x));clear HSS HBD hq7 hq7' hHeld hb6 hbe6 hbw6 hbwx hbx ho7 ho77;generalize z5k v.t rv.r x=bl at *;go_wp2_with fail
       go_loopw [85] (fun i wz=>∃ j:Nat,j≤bl.length∧i=.int .i64 j∧Below w7.heap.size w7 wz∧Hid (LiQ v.t u.i bl j)) (fun i _=>bl.length - (intOf i).toNat)
       case atStart=>exact ⟨0,nZ,rfl,bQ,hE (by unfold LiQ;simp)⟩
       case round=>
        rename World=>wz
        obtain ⟨j,hjl,rfl,hbz,HJ⟩:=hrel;have hb7z:=z00 hb7 hb7.size hbz;have hbwz:=z00 hbw7 hbw7.size hbz;by_cases hltj:j < bl.length
        ·have hji:(j:Int) < (bl.length:Int):=by omega
         obtain ⟨bg,offg,hAg,lbg,hog,y0,y1⟩:=(HRD.out.now hbz).elG hltj;have HSJ:=hE (z7d (p:=z5j v.t u.i) hltj);have HNJ:=hE (y2y (p:=z5j v.t u.i) hltj);have hym:=HMM.out _ (uE hltj);obtain ⟨m,hm,hm1,-⟩:=y3z HF.out.chk hym;have hml:m < u.i.lies.length:=by rw[HF.out.l2];exact hm1
         have hmi:(m:Int) < (u.i.lies.length:Int):=by omega
         have HLA:=hE (x3k (t:=v.t) (s:=u.i) hm hml);obtain ⟨bL,offL,hAL,lbL,hoL,zl⟩:=(hs.now hbwz).r2.elI hml;have HIX:=hE fun W' (h:Below wz.heap.size wz W')=>z4a v bl[j].el W' (hr.now (z00 hbwz hbwz.size h)) hym
         rw[hm] at HIX;clear hym hm;generalize u.i.lies[m]=lm at *;generalize bl[j]=y at *;obtain ⟨W8,hW8⟩:∃ W,W=wz.alloc (.cells #[.int .i64 y.el,.int .i64 y.pos] 78):=⟨_,rfl⟩
         have hbe8:Below wz.heap.size wz W8:=by rw[hW8];exact bQ.alloc nL _
         have hxy:Blk W8 wz.heap.size 78 #[.int .i64 y.el,.int .i64 y.pos]:=by rw[hW8];exact Blk.new _ _ _ _ rfl
         have hb8:=z00 hb7z hb7z.size hbe8;obtain ⟨bxt,bxi⟩:=HBX.out W8 hb8;have lxt:=bxt.lt;have lxi:=bxi.lt;have lxy:=hxy.lt;have lbL8:bL < W8.heap.size:=nT lbL hbe8.size;have cl:=(hbe8.cell (p:=⟨bL,offL+m,none⟩) lbL).trans zl;have lbg':bg < wz.heap.size:=lbg;rw[hAg];have HSS:Hid (∀ W,Below W8.heap.size W8 W→(fun w'=>w'.cell? ⟨w.heap.size,0,none⟩=some (.slice v.A1 v.t.rts.length v.c1)∧w'.cell? ⟨w.heap.size,1,none⟩=some (.slice v.A2 v.t.pts.length v.c2)∧w'.cell? ⟨w.heap.size,2,none⟩=some (.slice v.A3 v.t.homes.length v.c3)∧w'.cell? ⟨w.heap.size,3,none⟩=some (.int .i64 v.t.nsec)∧w'.cell? ⟨w.heap.size,4,none⟩=some (.int .i64 v.t.nsig)∧w'.cell? ⟨w.heap.size+1,1,none⟩=some (.slice (some ⟨bL,offL,none⟩) u.i.lies.length u.c2)∧w'.cell? ⟨wz.heap.size,0,none⟩=some (.int .i64 y.el)∧w'.cell? ⟨wz.heap.size,1,none⟩=some (.int .i64 y.pos)∧w'.cell? ⟨bL,offL+m,none⟩=some (.int .i64 lm)∧Below W8.heap.size W8 w') W):=hE fun W h=>⟨(h.cell (p:=⟨w.heap.size,0,none⟩) lxt).trans (bxt.cell 0),(h.cell (p:=⟨w.heap.size,1,none⟩) lxt).trans (bxt.cell 1),(h.cell (p:=⟨w.heap.size,2,none⟩) lxt).trans (bxt.cell 2),(h.cell (p:=⟨w.heap.size,3,none⟩) lxt).trans (bxt.cell 3),(h.cell (p:=⟨w.heap.size,4,none⟩) lxt).trans (bxt.cell 4),(h.cell (p:=⟨w.heap.size+1,1,none⟩) lxi).trans ((bxi.cell 1).trans (by unfold z1u;rw[hAL];rfl)),(h.cell (p:=⟨wz.heap.size,0,none⟩) lxy).trans (hxy.cell 0),(h.cell (p:=⟨wz.heap.size,1,none⟩) lxy).trans (hxy.cell 1),(h.cell (p:=⟨bL,offL+m,none⟩) lbL8).trans (cl),h⟩
         clear hAg hAL bxt bxi lxt lxi lxy lbL8 cl zl hxy;go_wp2_with fail
         rw[←hW8];clear hW8 y0 y1;refine rgS 11 HSS fun hHeld=>?_
         refine tkM 7 [0,1,2,3,4,8,9] ?_;refine rd1 5 rfl fun K hK=>?_
         go_simp;go_at_call 60
         refine (HIX.out _ (hbe8.trans (bQ.drew.mono hbe8.size))).mono ?_;rintro e w9 ⟨rfl,hq9⟩;have hq9':Below W8.heap.size W8 w9:=bQ.drew.trans hq9;go_wp2_with fail
         refine hK.out _ _ (HSS.out _ hq9') (fun hHeld=>?_);clear hK K;try simp only[Act.put,lsa,lsz,lss]
         refine tkM 3 [6,7,10] ?_;refine wdn ?_;have hb9:=z00 hbz hbz.size (hbe8.trans (hq9'.mono hbe8.size));have hbw9:=z00 hbw7 hbw7.size hb9;clear HSS HIX hq9 hq9' hHeld hbe8 hb8 hb7z hbwz hbz;by_cases hlm:lm=y.pos
         ·have t1:(lm != y.pos)=false:=by rw[hlm];exact bne_self_eq_false _
          have HX:Hid (LiQ v.t u.i bl (j+1)):=hE (by
           have h1:(bl.take j).all (z5j v.t u.i)=true:=HJ.out;unfold LiQ;rw[HSJ.out,h1,HLA.out,dTt hlm];rfl)
          clear hlm;go_wp2_with fail
          go_roundw
          case rel=>
           have hk1:j+1≤bl.length:=hltj;refine ⟨j+1,hk1,by go_num,hb9,?_⟩;exact HX
          case measure=>simp[intOf];omega
         ·have t1:(lm != y.pos)=true:=bne_iff_ne.2 hlm;have HX:Hid (z7t v.t u.i=false):=hE (by
           rw[HSN2.out];refine j8h hltk ?_;rw[HBL.out];exact HNJ.out (by rw[HLA.out,dFf hlm]))
          clear hlm;go_wp2_with fail
          go_ret;exact ⟨z0a HX.out.symm,hbw9⟩
        ·have hji:¬(j:Int) < (bl.length:Int):=by omega
         have HX:Hid (HeP v.t u.i (k+1)):=hE (j1j HH.out (by
          have h1:(bl.take j).all (z5j v.t u.i)=true:=HJ.out;rw[tlL (by omega)] at h1;rw[HBL.out];exact h1))
         go_wp2_with fail;go_roundw
         case rel=>
          have hk1:k+1≤v.t.rts.length:=hltk;refine ⟨k+1,hk1,by go_num,hb7z,?_⟩;exact HX
         case measure=>simp[intOf];omega
      ·have hki2:¬(k:Int) < (v.t.rts.length:Int):=by omega
       have HX:Hid (z7t v.t u.i=true):=hE (by
        have h1:=HH.out;rw[show k=v.t.rts.length by omega] at h1;rw[HSN2.out,j5s h1])
       go_wp2_with fail;go_ret
       exact ⟨z0a HX.out.symm,hbwx⟩
theorem y4u {t:Tab} {s:Itr} (h:Fits t s):y0z t s=true:=by
 rw[y3f h.chk h.l1 h.l2,uT,laT,laT];refine ⟨fun p hp=>?_,fun p hp=>?_⟩
 ·obtain ⟨i,hi,rfl⟩:=List.getElem_of_mem hp;rw[List.length_zip] at hi;have:=h.st i (by omega) (by omega);simpa using this
 ·obtain ⟨i,hi,rfl⟩:=List.getElem_of_mem hp;rcases h.ly i hi with h | h <;> rw[h] <;> rfl
theorem y5s (v:z1q) (u:z1r) (k:Nat) (w:World) (hr:TvR w v) (hs:y1a w u) (hS:y4e v.t) (hF:Fits v.t u.i) (hlt:k < v.t.rts.length):Calls Tryz.prog 20 #[.agg (z0s v),.agg (z1u u),.int .i64 (k:Int)] w (y4c cI 3 w (z2r (z0w v.t k) (z1g u.i k))):=by
 have hltu:k < u.i.rts.length:=by rw[hF.l1];exact hlt
 have hki:(k:Int) < (v.t.rts.length:Int):=by omega
 have hki0:¬(k:Int) < 0:=by omega
 have hki2:¬(v.t.rts.length:Int)≤(k:Int):=by omega
 have hkiu:(k:Int) < (u.i.rts.length:Int):=by omega
 obtain ⟨W2,hW2⟩:∃ W,W=(w.alloc (.cells (z0s v) 33)).alloc (.cells (z1u u) 41):=⟨_,rfl⟩
 have hb2:Below w.heap.size w W2:=by rw[hW2];exact (bQ.alloc nL _).alloc (by simp) _
 have hx0:Blk W2 w.heap.size 33 (z0s v):=by rw[hW2];exact (Blk.new _ _ _ _ rfl).alloc _
 have hx1:Blk W2 (w.heap.size+1) 41 (z1u u):=by rw[hW2];exact Blk.new _ _ _ _ (by simp)
 have HFT:=hE (fits_any v u W2 (hr.now hb2) (hs.now hb2) hS.ok);rw[y4u hF] at HFT;have hn1:=hs.n1.1;have hm1:=hr.n1.1;unfold maxLen at hn1 hm1;have hsec:=hS _ (uE hlt);have hfit:=hF.st k hltu hlt;have hpos:=z4k hF.chk hlt;have hck:=hF.chk;have hre1:=z3m hlt;have hre2:=z7b hltu;go_enter Tryz.func20,Tryz.ntmps20
 go_wp2_with fail;rw[←hW2];clear hW2;refine HFT.out.mono ?_;rintro e w3 ⟨rfl,hq3⟩;have hb3:=z00 hb2 hb2.size hq3;have bxt:=hx0.now hq3;have bxi:=hx1.now hq3;clear hx0 hx1 hb2 HFT hq3;obtain ⟨bS,offS,hAS,lbS,hoS,z0,z1,z2⟩:=(hs.now hb3).r1.elX hltu;obtain ⟨b2,off2,rv,hA2,lb2,hre,hrv,q0,q1,q2,q3,q4,q5,q6,q7,q8,q9,q10,q11,q12,q13⟩:=(hr.now hb3).r1.elR hlt;have hmem:rv.r∈v.t.rts:=by rw[hre];exact uE hlt
 rw[←hre] at hsec hfit hpos hre1;rw[←hre2] at hfit z0 z1 z2;have hrel:=y5y hfit hpos;have HRS:Hid (z2r rv.r (z1g u.i k)=z2r (z0w v.t k) (z1g u.i k)):=hE (by rw[hre1]);clear hre hre1 hre2;generalize z1g u.i k=x at *;obtain ⟨pa,hpa⟩:∃ p,off2+k*14=p:=⟨_,rfl⟩
 rw[hpa] at q0 q1 q2 q3 q4 q5 q6 q7 q8 q9 q10 q11 q12 q13;obtain ⟨ps,hps⟩:∃ p,offS+k*3=p:=⟨_,rfl⟩
 rw[hps] at z0 z1 z2;have HC:=hE fun W' (h:Below w3.heap.size w3 W')=>y8x rv x W' (hrv.now h) hrel (by have:=hsec.n3;omega)
 have lxt:=bxt.lt;have lxi:=bxi.lt;have lbS':bS < w3.heap.size:=lbS;have lb2':b2 < w3.heap.size:=lb2;have HSS:Hid (∀ W,Below w3.heap.size w3 W→(fun w'=>w'.cell? ⟨w.heap.size,0,none⟩=some (.slice (some ⟨b2,off2,none⟩) v.t.rts.length v.c1)∧w'.cell? ⟨w.heap.size+1,0,none⟩=some (.slice (some ⟨bS,offS,none⟩) u.i.rts.length u.c1)∧w'.cell? ⟨b2,pa,none⟩=some (.string (bs rv.r.name))∧w'.cell? ⟨b2,pa+1,none⟩=some (.int .i64 rv.r.ent)∧w'.cell? ⟨b2,pa+2,none⟩=some (.int .i64 rv.r.ext)∧w'.cell? ⟨b2,pa+3,none⟩=some (.slice rv.A1 rv.r.path.length rv.c1)∧w'.cell? ⟨b2,pa+4,none⟩=some (.slice rv.A2 rv.r.pts.length rv.c2)∧w'.cell? ⟨b2,pa+5,none⟩=some (.slice rv.A3 rv.r.secs.length rv.c3)∧w'.cell? ⟨b2,pa+6,none⟩=some (.int .i64 rv.r.app)∧w'.cell? ⟨b2,pa+7,none⟩=some (.int .i64 rv.r.len)∧w'.cell? ⟨b2,pa+8,none⟩=some (.slice rv.A4 rv.r.over.length rv.c4)∧w'.cell? ⟨b2,pa+9,none⟩=some (.slice rv.A5 rv.r.opts.length rv.c5)∧w'.cell? ⟨b2,pa+10,none⟩=some (.slice rv.A6 rv.r.osecs.length rv.c6)∧w'.cell? ⟨b2,pa+11,none⟩=some (.slice rv.A7 rv.r.flk.length rv.c7)∧w'.cell? ⟨b2,pa+12,none⟩=some (.slice rv.A8 rv.r.grd.length rv.c8)∧w'.cell? ⟨b2,pa+13,none⟩=some (.slice rv.A9 rv.r.gap.length rv.c9)∧w'.cell? ⟨bS,ps,none⟩=some (.int .i64 x.st)∧w'.cell? ⟨bS,ps+1,none⟩=some (.int .i64 x.rel)∧w'.cell? ⟨bS,ps+2,none⟩=some (.int .i64 x.tim)∧Below w3.heap.size w3 w') W):=hE fun W h=>⟨(h.cell (p:=⟨w.heap.size,0,none⟩) lxt).trans ((bxt.cell 0).trans (by unfold z0s;rw[hA2];rfl)),(h.cell (p:=⟨w.heap.size+1,0,none⟩) lxi).trans ((bxi.cell 0).trans (by unfold z1u;rw[hAS];rfl)),(h.cell (p:=⟨b2,pa,none⟩) lb2').trans (q0),(h.cell (p:=⟨b2,pa+1,none⟩) lb2').trans (q1),(h.cell (p:=⟨b2,pa+2,none⟩) lb2').trans (q2),(h.cell (p:=⟨b2,pa+3,none⟩) lb2').trans (q3),(h.cell (p:=⟨b2,pa+4,none⟩) lb2').trans (q4),(h.cell (p:=⟨b2,pa+5,none⟩) lb2').trans (q5),(h.cell (p:=⟨b2,pa+6,none⟩) lb2').trans (q6),(h.cell (p:=⟨b2,pa+7,none⟩) lb2').trans (q7),(h.cell (p:=⟨b2,pa+8,none⟩) lb2').trans (q8),(h.cell (p:=⟨b2,pa+9,none⟩) lb2').trans (q9),(h.cell (p:=⟨b2,pa+10,none⟩) lb2').trans (q10),(h.cell (p:=⟨b2,pa+11,none⟩) lb2').trans (q11),(h.cell (p:=⟨b2,pa+12,none⟩) lb2').trans (q12),(h.cell (p:=⟨b2,pa+13,none⟩) lb2').trans (q13),(h.cell (p:=⟨bS,ps,none⟩) lbS').trans (z0),(h.cell (p:=⟨bS,ps+1,none⟩) lbS').trans (z1),(h.cell (p:=⟨bS,ps+2,none⟩) lbS').trans (z2),h⟩
 have X0:=(bxt.cell 0).trans (by unfold z0s;rw[hA2];rfl:_=some (Value.slice (some ⟨b2,off2,none⟩) v.t.rts.length v.c1));clear hA2 hAS q0 q1 q2 q3 q4 q5 q6 q7 q8 q9 q10 q11 q12 q13 z0 z1 z2 hoS hrv hmem hsec hfit hpos hrel hck bxt bxi;go_wp2_with fail
 refine rgS 12 HSS fun hHeld=>?_
 refine tkM 10 [0,1,2,3,4,5,6,7,8,9] ?_;refine rd1 10 rfl fun K hK=>?_
 go_simp;go_at_call 51
 refine (HC.out _ bQ.drew).mono ?_;rintro e w7 ⟨A7,c7,rfl,ho7,hq7⟩;have hq7':Below w3.heap.size w3 w7:=bQ.drew.trans hq7;go_wp2_with fail
 refine hK.out _ _ (HSS.out _ hq7') (fun hHeld=>?_);clear hK K;try simp only[Act.put,lsa,lsz,lss]
 refine tkM 1 [11] ?_;refine wdn ?_;have hb7:=z00 hb3 hb3.size hq7';have ho77:=ho7.lower hb3.size;clear HSS HC hq7 hq7' ho7 hHeld;go_wp2_with fail
 go_ret;exact z0y HRS.out rfl ho77 hb7
theorem y9u:(Tryz.prog.info? 4).map (fun i=>(i.zero,i.size,i.bytes))=some (some (.bool false),1,1):=by kernel_rfl
theorem j03 (N:Nat) (hN:N≤1000000) (W:World):(Instr.makeSlice 43 (.int .i64 (N:Int)) (.int .i64 (N:Int))).run Tryz.prog W=.ok (.slice (some ⟨W.heap.size,0,none⟩) N N) (W.alloc (.cells (List.replicate N (Value.bool false)).toArray 4)):=by
 obtain ⟨i0,hi,hz0,hz1,hz2⟩:=info_parts y9u;have h:=run_make (P:=Tryz.prog) W 43 4 i0 (.bool false) Tryz.underlying43 hi hz0 .i64 .i64 (N:Int) (N:Int) (by omega) (by omega) (by rw[hz2];omega) (by omega);rw[hz1,show ((N:Int)).toNat=N by omega,Nat.mul_one,y8m _ _ rfl] at h;exact h
theorem y7p {α:Type} {c:Cod α} {w:World} {S:Nat→Prop} {x:α} {ys:List Value} (h:c.rd w S ys x):∀ N,RdC c w S (List.replicate N ys).flatten (List.replicate N x)
 | 0=>rfl
 | N+1=>⟨ys,_,by rw[List.replicate_succ,List.flatten_cons],h,y7p h N⟩
theorem y3v {α:Type} {c:Cod α} (hc:Flat c) {W:World} {base N:Nat} {T:TypeId} {x:α} {ys:List Value} (h:∀ w S,c.rd w S ys x) (hb:base≤W.heap.size) (hN:N≤maxLen):z07 c (W.alloc (.cells (List.replicate N ys).flatten.toArray T)) base T (.slice (some ⟨W.heap.size,0,none⟩) N N) (List.replicate N x) 0:=by
 have hl:(List.replicate N ys).flatten.length=N*c.size:=by
  have:=(y7p (h W (fun _=>True)) N).len
  rwa [List.length_replicate] at this
 exact ⟨(List.replicate N ys).flatten,⟨by rw[List.length_replicate];exact hl,Or.inr ⟨W.heap.size,N,_,by rw[List.length_replicate],hb,heap_alloc_new _ _,by rw[List.length_replicate];exact nL,hN,by simpa using hl,by rw[List.length_replicate,←hl,List.take_length]⟩⟩,y7p (h _ _) N,nZ⟩
theorem x4r {α:Type} (v:α) (N:Nat):(List.replicate N [v]).flatten=List.replicate N v:=by
 induction N with
 | zero=>rfl
 | succ N ih=>rw[List.replicate_succ,List.flatten_cons,ih];rfl
theorem y8v {α:Type} {c:Cod α} (hc:Flat c) (h1:c.size=1) {w:World} {base g cap k:Nat} {e:TypeId} {l:List α} {u:Value} {y:α} (h:z07 c w base e (.slice (some ⟨g,0,none⟩) l.length cap) l 0) (hk:k < l.length) (hy:∀ w S,c.rd w S [u] y) :
  z07 c (w.setCell ⟨g,k,none⟩ u) base e (.slice (some ⟨g,0,none⟩) l.length cap) (l.set k y) 0∧Frm base e w (w.setCell ⟨g,k,none⟩ u):=by
 have:=x4g hc h hk hy;rw[h1,Nat.mul_one] at this;exact this
theorem y3u {α:Type} {c:Cod α} {w:World} {base g n cap B:Nat} {e:TypeId} {l:List α} (h:z07 c w base e (.slice (some ⟨g,0,none⟩) n cap) l B) (j:Nat):w.frozen? ⟨g,j,none⟩=false:=by
 obtain ⟨xs,h1,_⟩:=h;rcases h1.2 with ⟨hv,_⟩ | ⟨g',cap',cur,hv,hb,hg,_⟩
 ·cases hv
 ·simp only[Value.slice.injEq,qE,Addr.mk.injEq,and_true] at hv;rw[hv.1];exact Lib.frozen_of_heap hg j
def onK (t:Tab) (s:Itr) (k:Nat):List Bool:=(List.range t.nsig.toNat).map fun (j:Nat)=>((t.rts.zip s.rts).take k).any fun p=>decide (p.2.st=2) && decide (p.1.ent=(j:Int))
theorem j2m (t:Tab) (s:Itr) (k:Nat):(onK t s k).length=t.nsig.toNat:=by simp[onK]
theorem x8i (t:Tab) (s:Itr):onK t s 0=List.replicate t.nsig.toNat false:=by
 apply List.ext_getElem <;> simp[onK]
theorem j2l {t:Tab} {s:Itr} {k:Nat} (hl:s.rts.length=t.rts.length) (h:¬k < t.rts.length):onK t s k=z6n t s:=by
 unfold onK z6n;rw[tlL (by rw[List.length_zip];omega)]
theorem j6k {t:Tab} {s:Itr} {k:Nat} (h1:k < t.rts.length) (h2:k < s.rts.length) (h:¬s.rts[k].st=2):onK t s (k+1)=onK t s k:=by
 unfold onK;congr 1;funext j;rw[tqS (by rw[List.length_zip];omega),List.any_append];simp[h]
theorem j2n {t:Tab} {s:Itr} {k e:Nat} (h1:k < t.rts.length) (h2:k < s.rts.length) (h:s.rts[k].st=2) (he:t.rts[k].ent=(e:Int)):onK t s (k+1)=(onK t s k).set e true:=by
 apply List.ext_getElem?;intro j;rw[List.getElem?_set];unfold onK;rw[List.length_map,List.length_range];by_cases hj:j < t.nsig.toNat
 ·rw[List.getElem?_map,List.getElem?_range hj,List.getElem?_map,List.getElem?_range hj];simp only[Option.map_some];rw[tqS (by rw[List.length_zip];omega),List.any_append];by_cases hje:e=j
  ·subst hje;rw[if_pos rfl,if_pos hj];simp[h,he]
  ·rw[if_neg hje];have:¬((e:Int)=(j:Int)):=by omega
   simp[h,he,this]
 ·rw[List.getElem?_eq_none (by simp;omega)];by_cases hje:e=j
  ·rw[if_pos hje,if_neg (by omega)]
  ·rw[if_neg hje,List.getElem?_eq_none (by simp;omega)]
theorem y6m:Flat cB:=fun _ _ _ _ _ _ h=>h
theorem y7r (v:z1q) (u:z1r) (w:World) (hr:TvR w v) (hs:y1a w u) (hck:z4p v.t=0) (hl:u.i.rts.length=v.t.rts.length):Calls Tryz.prog 28 #[.agg #[.slice v.A1 v.t.rts.length v.c1,.slice v.A2 v.t.pts.length v.c2,.slice v.A3 v.t.homes.length v.c3,.int .i64 v.t.nsec,.int .i64 v.t.nsig],.agg #[.slice u.A1 u.i.rts.length u.c1,.slice u.A2 u.i.lies.length u.c2]] w (y4c cB 4 w (z6n v.t u.i)):=by
 obtain ⟨m,hm⟩:∃ m:Nat,v.t.nsig=m:=⟨v.t.nsig.toNat,by have:=(y0r hck).ng;omega⟩
 have hm20:m≤20:=by have:=(y0r hck).ng;omega
 have hm1:=hr.n1.1;unfold maxLen at hm1;have hmt:v.t.nsig.toNat=m:=by rw[hm];rfl
 have HL:=hE hl;obtain ⟨W2,hW2⟩:∃ W,W=(w.alloc (.cells #[.slice v.A1 v.t.rts.length v.c1,.slice v.A2 v.t.pts.length v.c2,.slice v.A3 v.t.homes.length v.c3,.int .i64 v.t.nsec,.int .i64 v.t.nsig] 33)).alloc (.cells #[.slice u.A1 u.i.rts.length u.c1,.slice u.A2 u.i.lies.length u.c2] 41):=⟨_,rfl⟩
 have hb2:Below w.heap.size w W2:=by rw[hW2];exact (bQ.alloc nL _).alloc (by simp) _
 have hx0:Blk W2 w.heap.size 33 #[.slice v.A1 v.t.rts.length v.c1,.slice v.A2 v.t.pts.length v.c2,.slice v.A3 v.t.homes.length v.c3,.int .i64 v.t.nsec,.int .i64 v.t.nsig]:=by rw[hW2];exact (Blk.new _ _ _ _ rfl).alloc _
 have hx1:Blk W2 (w.heap.size+1) 41 #[.slice u.A1 u.i.rts.length u.c1,.slice u.A2 u.i.lies.length u.c2]:=by rw[hW2];exact Blk.new _ _ _ _ (by simp)
 have hg2:W2.heap.size=w.heap.size+1+1:=by rw[hW2];simp
 obtain ⟨W3,hW3⟩:∃ W,W=((w.alloc (.cells #[.slice v.A1 v.t.rts.length v.c1,.slice v.A2 v.t.pts.length v.c2,.slice v.A3 v.t.homes.length v.c3,.int .i64 v.t.nsec,.int .i64 v.t.nsig] 33)).alloc (.cells #[.slice u.A1 u.i.rts.length u.c1,.slice u.A2 u.i.lies.length u.c2] 41)).alloc (.cells (Array.replicate m (Value.bool false)) 4):=⟨_,rfl⟩
 have hW3':W3=W2.alloc (.cells (List.replicate m (Value.bool false)).toArray 4):=by rw[hW3,hW2,List.toArray_replicate]
 have hbe3:Below W2.heap.size W2 W3:=by rw[hW3'];exact bQ.alloc nL _
 have hb3:=z00 hb2 hb2.size hbe3;have hx03:=hx0.now hbe3;have hx13:=hx1.now hbe3;have hown3:z07 cB W3 w.heap.size 4 (.slice (some ⟨w.heap.size+1+1,0,none⟩) m m) (onK v.t u.i 0) 0:=by
  rw[hW3',x8i,hmt,←x4r,←hg2];exact y3v y6m (x:=false) (ys:=[.bool false]) (fun _ _=>rfl) hb2.size (by unfold maxLen;omega)
 have mk:=j03 m (by omega);rw[←hm] at mk;have HM:=hE hm;have HMT:=hE hmt;have HCK:=hE hck;clear hx0 hx1 hmt hck hl hW2 hW3' hbe3 hg2 hb2 hm;go_enter Tryz.func28,Tryz.ntmps28
 go_wp2_with fail;rw[←hW3];clear hW3 mk;go_loopw [14] (fun i wr=>∃ k:Nat,k≤v.t.rts.length∧i=.int .i64 k∧z07 cB wr w.heap.size 4 (.slice (some ⟨w.heap.size+1+1,0,none⟩) m m) (onK v.t u.i k) 0∧Below w.heap.size w wr∧Blk wr w.heap.size 33 #[.slice v.A1 v.t.rts.length v.c1,.slice v.A2 v.t.pts.length v.c2,.slice v.A3 v.t.homes.length v.c3,.int .i64 v.t.nsec,.int .i64 v.t.nsig]∧Blk wr (w.heap.size+1) 41 #[.slice u.A1 u.i.rts.length u.c1,.slice u.A2 u.i.lies.length u.c2]) (fun i _=>v.t.rts.length - (intOf i).toNat)
 case atStart=>exact ⟨0,nZ,rfl,hown3,hb3,hx03,hx13⟩
 case round=>
  obtain ⟨k,hkl,rfl,hon,hb,hxt,hxi⟩:=hrel;clear hown3 hb3 hx03 hx13;by_cases hlt:k < v.t.rts.length
  ·have hki:(k:Int) < (v.t.rts.length:Int):=by omega
   have hltu:k < u.i.rts.length:=by rw[HL.out];exact hlt
   have hkiu:(k:Int) < (u.i.rts.length:Int):=by omega
   obtain ⟨bS,offS,hAS,lbS,hoS,z0,z1,z2⟩:=(hs.now hb).r1.elX hltu;obtain ⟨b2,off2,rv,hA2,lb2,hre,hrv,q0,q1,q2,q3,q4,q5,q6,q7,q8,q9,q10,q11,q12,q13⟩:=(hr.now hb).r1.elR hlt;have hent:=(y0r HCK.out).ent _ (uE hlt);have HNO:=hE (j6k (t:=v.t) (s:=u.i) hlt hltu);have HYE:=hE fun e=>j2n (t:=v.t) (s:=u.i) (e:=e) hlt hltu
   rw[←hre] at hent;rw[←hre] at HYE;obtain ⟨en,hen⟩:∃ e:Nat,rv.r.ent=e:=⟨rv.r.ent.toNat,by omega⟩
   have henm:en < m:=by have:=HM.out;omega
   have heni:(en:Int) < (m:Int):=by omega
   have HYE2:=hE fun h=>HYE.out en h hen
   generalize u.i.rts[k]=x at *;have HA2:=hE hA2;have hxiX:wr.cell? ⟨w.heap.size+1,0,none⟩=some (.slice (some ⟨bS,offS,none⟩) u.i.rts.length u.c1):=(hxi.cell 0).trans (by rw[hAS];rfl);have lxi:=hxi.lt;have lbS':bS < wr.heap.size:=lbS;have lb2':b2 < wr.heap.size:=lb2;have hall:Below wr.heap.size wr (wr.alloc (.cells #[.string (bs rv.r.name),.int .i64 rv.r.ent,.int .i64 rv.r.ext,.slice rv.A1 rv.r.path.length rv.c1,.slice rv.A2 rv.r.pts.length rv.c2,.slice rv.A3 rv.r.secs.length rv.c3,.int .i64 rv.r.app,.int .i64 rv.r.len,.slice rv.A4 rv.r.over.length rv.c4,.slice rv.A5 rv.r.opts.length rv.c5,.slice rv.A6 rv.r.osecs.length rv.c6,.slice rv.A7 rv.r.flk.length rv.c7,.slice rv.A8 rv.r.grd.length rv.c8,.slice rv.A9 rv.r.gap.length rv.c9] 56)):=bQ.alloc nL _;have HH:=hE (aIq (hon.now hall) (aIq (z00 hb hb.size hall) (aIq (hxt.now hall) (hxi.now hall))));rw[hA2];rw[hen] at q1 hall HH;have HEN:=hE hen;clear hA2 hAS hre hent HYE hen;by_cases hst:x.st=2
   ·have t1:(x.st==2)=true:=by rw[hst];rfl
    have HS:=hE (HYE2.out hst);have hol:(onK v.t u.i k).length=m:=by rw[j2m];exact HMT.out
    have hon2:z07 cB wr w.heap.size 4 (.slice (some ⟨w.heap.size+1+1,0,none⟩) (onK v.t u.i k).length m) (onK v.t u.i k) 0:=by rw[hol];exact hon
    obtain ⟨bo,offo,hAo,lbo,c0⟩:=hon2.rdn.2.j4h (i:=en) (by omega);simp only[qE,Addr.mk.injEq,and_true] at hAo;obtain ⟨rfl,rfl⟩:=hAo;rw[Nat.zero_add] at c0;have c1:=y3u hon2 en;have lbo2:w.heap.size+1+1 < wr.heap.size:=lbo.2;obtain ⟨ho6,hf6⟩:=y8v y6m rfl (u:=.bool true) (y:=true) hon2 (show en < _ by omega) (fun _ _=>rfl);rw[hol] at ho6;have hb6:=hf6.keeps nL hb.size hb;have hal6:Below (wr.setCell ⟨w.heap.size+1+1,en,none⟩ (.bool true)).heap.size (wr.setCell ⟨w.heap.size+1+1,en,none⟩ (.bool true)) ((wr.setCell ⟨w.heap.size+1+1,en,none⟩ (.bool true)).alloc (.cells #[.string (bs rv.r.name),.int .i64 rv.r.ent,.int .i64 rv.r.ext,.slice rv.A1 rv.r.path.length rv.c1,.slice rv.A2 rv.r.pts.length rv.c2,.slice rv.A3 rv.r.secs.length rv.c3,.int .i64 rv.r.app,.int .i64 rv.r.len,.slice rv.A4 rv.r.over.length rv.c4,.slice rv.A5 rv.r.opts.length rv.c5,.slice rv.A6 rv.r.osecs.length rv.c6,.slice rv.A7 rv.r.flk.length rv.c7,.slice rv.A8 rv.r.grd.length rv.c8,.slice rv.A9 rv.r.gap.length rv.c9] 56)):=bQ.alloc nL _;have HH2:=hE (aIq (ho6.now hal6) (aIq (z00 hb6 hb6.size hal6) (aIq ((hf6.blk hxt (by decide)).now hal6) ((hf6.blk hxi (by decide)).now hal6))));rw[HEN.out] at HH2;generalize (onK v.t u.i k)[en]'(by omega)=c0v at *;clear hst hon hon2 hb hxt hxi ho6 hf6 hb6 hal6 lbo;go_wp2_with fail
    go_roundw
    case rel=>
     have hk1:k+1≤v.t.rts.length:=hlt;obtain ⟨h1,h2,h3,h4⟩:=HH2.out;rw[HA2.out] at h3;refine ⟨k+1,hk1,by go_num,?_,h2,h3,h4⟩;rw[HS.out];exact h1
    case measure=>simp[intOf];omega
   ·have t1:(x.st==2)=false:=by simpa using hst
    have HS:=hE (HNO.out hst);clear hst hon hb hxt hxi;go_wp2_with fail
    go_roundw
    case rel=>
     have hk1:k+1≤v.t.rts.length:=hlt;obtain ⟨h1,h2,h3,h4⟩:=HH.out;rw[HA2.out] at h3;refine ⟨k+1,hk1,by go_num,?_,h2,h3,h4⟩;rw[HS.out];exact h1
    case measure=>simp[intOf];omega
  ·have hki:¬(k:Int) < (v.t.rts.length:Int):=by omega
   have HS:=hE (j2l HL.out hlt);rw[HS.out] at hon;have hsl:(z6n v.t u.i).length=m:=by have:=HMT.out;simp[z6n];omega
   have HO:Hid (z07 cB wr w.heap.size 4 (.slice (some ⟨w.heap.size+1+1,0,none⟩) (z6n v.t u.i).length m) (z6n v.t u.i) 0):=hE (by rw[hsl];exact hon);have HSL:=hE hsl;clear hon hsl hxt hxi;go_wp2_with fail
   go_ret;exact ⟨some ⟨w.heap.size+1+1,0,none⟩,m,(by rw[HSL.out];rfl),HO.out,hb⟩
end Go.Proofs.YtpenlfedkacglaaGreatDoor
