import Derived.Test.YtpenlfedkacglaaGreatDoorL12
set_option maxRecDepth 100000
set_option maxHeartbeats 40000000
set_option linter.all false
namespace Go.Proofs.YtpenlfedkacglaaGreatDoor
open Go.RowKit Go.Shelf Go.Lib
attribute [local go_sem] z05 z07 z01 z02
attribute [-go_sem] run_equalIn_agg
instance inhStp:Inhabited Stp:=⟨zP⟩
def j8b (x:Stp):List Value:=[.int .i64 x.el,.int .i64 x.inn,.int .i64 x.out]
theorem j3b (el:Int) (g:Nat) (w:World) (hg:Blk w g 3 #[.int .i64 el]):PredBelow Tryz.prog 146 #[.pointer (some ⟨g,0,none⟩)] (fun x:Stp=>.agg (j8b x).toArray) (fun x:Stp=>decide (x.el=el)) w:=by
 intro W x hb;show Calls Tryz.prog 146 #[.agg #[.int .i64 x.el,.int .i64 x.inn,.int .i64 x.out],.pointer (some ⟨g,0,none⟩)] W _;have hb2:=hb.alloc hb.size (.cells #[.int .i64 x.el,.int .i64 x.inn,.int .i64 x.out] 85);have hx:=(hg.now hb2).cell 0;have hl:=(hg.now hb2).lt;by_cases h1:x.el=el
 ·have t1:(x.el==el)=true:=by rw[h1];simp
  have HX:Hid (true=decide (x.el=el)):=hE (by simp[h1]);clear h1;go_enter Tryz.func146,Tryz.ntmps146
  go_wp2_with fail;go_ret
  exact ⟨z0a HX.out,hb2⟩
 ·have t1:(x.el==el)=false:=by simp[h1]
  have HX:Hid (false=decide (x.el=el)):=hE (by simp[h1]);clear h1;go_enter Tryz.func146,Tryz.ntmps146
  go_wp2_with fail;go_ret
  exact ⟨z0a HX.out,hb2⟩
theorem j3c (el:Int) (g:Nat) (w:World) (hg:Blk w g 3 #[.int .i64 el]):PredBelow Tryz.prog 152 #[.pointer (some ⟨g,0,none⟩)] (fun x:Stp=>.agg (j8b x).toArray) (fun x:Stp=>decide (x.el=el)) w:=by
 intro W x hb;show Calls Tryz.prog 152 #[.agg #[.int .i64 x.el,.int .i64 x.inn,.int .i64 x.out],.pointer (some ⟨g,0,none⟩)] W _;have hb2:=hb.alloc hb.size (.cells #[.int .i64 x.el,.int .i64 x.inn,.int .i64 x.out] 85);have hx:=(hg.now hb2).cell 0;have hl:=(hg.now hb2).lt;by_cases h1:x.el=el
 ·have t1:(x.el==el)=true:=by rw[h1];simp
  have HX:Hid (true=decide (x.el=el)):=hE (by simp[h1]);clear h1;go_enter Tryz.func152,Tryz.ntmps152
  go_wp2_with fail;go_ret
  exact ⟨z0a HX.out,hb2⟩
 ·have t1:(x.el==el)=false:=by simp[h1]
  have HX:Hid (false=decide (x.el=el)):=hE (by simp[h1]);clear h1;go_enter Tryz.func152,Tryz.ntmps152
  go_wp2_with fail;go_ret
  exact ⟨z0a HX.out,hb2⟩
theorem y5e (A:Option Addr) (cap:Nat) (fv:Value) (w:World):Calls Tryz.prog 162 #[.slice A 0 cap,fv] w fun e w'=>e=.returned (.int .i64 (-1))∧w' = w:=by
 go_enter Tryz.func162,Tryz.ntmps162
 go_wp2_with fail;go_loopw [8] (fun i wr=>i=.int .i64 0∧Hid (wr=w)) (fun _ _=>0)
 case atStart=>exact ⟨rfl,hE rfl⟩
 case round=>
  obtain ⟨rfl,HW⟩:=hrel;go_wp2_with fail
  go_ret;exact ⟨rfl,HW.out⟩
theorem y6u (A:Option Addr) (cap:Nat) (fv:Value) (w:World):Calls Tryz.prog 145 #[.slice A 0 cap,fv] w fun e w'=>e=.returned (.bool false)∧w' = w:=by
 have HI:=hE (y5e A cap fv w);go_enter Tryz.func145,Tryz.ntmps145
 go_wp2_with fail;refine HI.out.mono ?_;rintro e w2 ⟨rfl,rfl⟩;go_wp2_with fail
 go_ret;exact ⟨rfl,rfl⟩
theorem z5p (g:Nat) (lb:Array Value) (p:Stp→Bool) (eg:∀ args w,(callFunc g args).run Tryz.prog w=.ok (.enter g args) w) (l:List Stp) (A:Option Addr) (cap:Nat) (w:World) (hp:PredBelow Tryz.prog g lb (fun x:Stp=>.agg (j8b x).toArray) p w) (hr:RdS z1h w (Lt w) A l) (hl:l.length≤maxLen):Calls Tryz.prog 145 #[.slice A l.length cap,.func (.func g) #[] lb] w fun e w'=>e=.returned (.bool (l.any p))∧Below w.heap.size w w':=by
 by_cases h0:0 < l.length
 ·have hr2:=hr;obtain ⟨b,off,rfl,hb,-⟩:=hr2 h0;refine (AnyQ.slices_ContainsFunc Tryz.layH145 3 Tryz.isAgg85 Tryz.sizeOf85 j8b (fun _=>rfl) p g lb eg b off l.length cap l w hp nL (by unfold maxLen at hl;omega) hb (fun j hj i v hv=>?_)).mono ?_
  ·obtain ⟨b',off',hA,-,-,y0,y1,y2⟩:=hr.elT hj;simp only[qE,Addr.mk.injEq,and_true] at hA;obtain ⟨rfl,rfl⟩:=hA;rw[getElem!_pos l j hj] at hv
   match i,hv with
   | 0,hv=>obtain rfl:=sJ hv;exact y0
   | 1,hv=>obtain rfl:=sJ hv;exact y1
   | 2,hv=>obtain rfl:=sJ hv;exact y2
  ·rintro e w' ⟨rfl,hq⟩;rw[List.take_length];exact ⟨rfl,hq⟩
 ·obtain rfl:l=[]:=List.eq_nil_of_length_eq_zero (by omega);refine (y6u A cap _ w).mono ?_;rintro e w' ⟨rfl,rfl⟩;exact ⟨rfl,bQ⟩
theorem x0j (l:List Stp) (A:Option Addr) (cap:Nat) (el:Int) (w:World) (hr:RdS z1h w (Lt w) A l) (hl:l.length≤maxLen):Calls Tryz.prog 94 #[.slice A l.length cap,.int .i64 el] w fun e w'=>e=.returned (.bool (l.any fun s=>decide (s.el=el)))∧Below w.heap.size w w':=by
 obtain ⟨W2,hW2⟩:∃ W,W=w.alloc (.cells #[.int .i64 el] 3):=⟨_,rfl⟩
 have hb:Below w.heap.size w W2:=by rw[hW2];exact bQ.alloc nL _
 have hg:Blk W2 w.heap.size 3 #[.int .i64 el]:=by rw[hW2];exact Blk.new _ _ _ _ rfl
 have HC:=hE (z5p 146 #[.pointer (some ⟨w.heap.size,0,none⟩)] (fun x:Stp=>decide (x.el=el)) (enters_of Tryz.func146 (by kernel_rfl) rfl) l A cap W2 (j3b el _ W2 hg) (hr.now hb) hl);generalize (l.any fun s=>decide (s.el=el))=r at *;go_enter Tryz.func94,Tryz.ntmps94
 go_wp2_with fail;rw[←hW2];clear hW2;refine HC.out.mono ?_;rintro e w2 ⟨rfl,hq⟩;have hb2:=z00 hb hb.size hq;go_wp2_with fail
 go_ret;exact ⟨rfl,hb2⟩
theorem y1n (x:Int) (l:List Int) (A:Option Addr) (cap:Nat) (w:World) (hr:RdS cI w (Lt w) A l) (hl:l.length≤maxLen):Calls Tryz.prog 95 #[.int .i64 x,.slice A l.length cap] w fun e w'=>e=.returned (.bool (decide (x∈l)))∧Below w.heap.size w w':=by
 have HC:=hE (z4z l x A cap w hr hl);generalize decide (x∈l)=r at *;go_enter Tryz.func95,Tryz.ntmps95
 go_wp2_with fail;refine HC.out.mono ?_;rintro e w2 ⟨rfl,rfl⟩;go_wp2_with fail
 go_ret;exact ⟨rfl,bQ⟩
theorem j5t:EqlAt Tryz.prog 78 (fun x:Stg=>.agg (z3m x).toArray) (fun x y=>decide (x=y)):=
 ⟨fun x y w=>by
  have this:(Op.equalIn Op.maxDepth 78 (.agg #[.int .i64 x.el,.int .i64 x.pos]) (.agg #[.int .i64 y.el,.int .i64 y.pos])).run Tryz.prog w=.ok (decide (x=y)) w:=y55 w 9998 x y;simp only[z3m];simp only[binOp];first | (simp[Op.equal,this];done) | (unfold Op.equal;simp_all [go_sem];done),GuardAt.agg _ (by kernel_rfl)⟩
theorem j3y (x:Stg) (l:List Stg):(l.any fun y=>decide (x=y))=decide (x∈l):=by
 rw[Bool.eq_iff_iff];simp
theorem y5f (A:Option Addr) (cap:Nat) (x y:Int) (w:World):Calls Tryz.prog 175 #[.slice A 0 cap,.agg #[.int .i64 x,.int .i64 y]] w fun e w'=>e=.returned (.int .i64 (-1))∧Below w.heap.size w w':=by
 go_enter Tryz.func175,Tryz.ntmps175
 have hb:Below w.heap.size w (w.alloc (.cells #[.int .i64 x,.int .i64 y] 78)):=bQ.alloc nL _;go_wp2_with fail
 go_loopw [8] (fun i wr=>i=.int .i64 0∧Below w.heap.size w wr) (fun _ _=>0)
 case atStart=>exact ⟨rfl,hb⟩
 case round=>
  obtain ⟨rfl,hb2⟩:=hrel;go_wp2_with fail
  go_ret;exact ⟨rfl,hb2⟩
theorem y70 (A:Option Addr) (cap:Nat) (x y:Int) (w:World):Calls Tryz.prog 168 #[.slice A 0 cap,.agg #[.int .i64 x,.int .i64 y]] w fun e w'=>e=.returned (.bool false)∧Below w.heap.size w w':=by
 obtain ⟨W2,hW2⟩:∃ W,W=w.alloc (.cells #[.int .i64 x,.int .i64 y] 78):=⟨_,rfl⟩
 have hb:Below w.heap.size w W2:=by rw[hW2];exact bQ.alloc nL _
 have hx:Blk W2 w.heap.size 78 #[.int .i64 x,.int .i64 y]:=by rw[hW2];exact Blk.new _ _ _ _ rfl
 have x0:=hx.cell 0;have x1:=hx.cell 1;have xl:=hx.lt;simp only[gqA,gqZ,gqS] at x0 x1;have ld:=z04 hx 2 rfl;have HI:=hE (y5f A cap x y W2);clear hx;go_enter Tryz.func168,Tryz.ntmps168
 go_wp2_with fail;rw[←hW2];clear hW2;go_wp2_with fail
 refine HI.out.mono ?_;rintro e w2 ⟨rfl,hq⟩;have hb2:=z00 hb hb.size hq;go_wp2_with fail
 go_ret;exact ⟨rfl,hb2⟩
theorem z4c (x:Stg) (l:List Stg) (A:Option Addr) (cap:Nat) (w:World) (hr:RdS z2x w (Lt w) A l) (hl:l.length≤maxLen):Calls Tryz.prog 168 #[.slice A l.length cap,.agg #[.int .i64 x.el,.int .i64 x.pos]] w fun e w'=>e=.returned (.bool (decide (x∈l)))∧Below w.heap.size w w':=by
 by_cases h0:0 < l.length
 ·have hr2:=hr;obtain ⟨b,off,rfl,hb,-⟩:=hr2 h0;refine (AnyQ.slices_Contains Tryz.layQ168 2 Tryz.isAgg78 Tryz.sizeOf78 z3m (fun _=>rfl) (fun x y=>decide (x=y)) j5t b off l.length cap l x w nL (by unfold maxLen at hl;omega) (fun j hj i v hv=>?_)).mono ?_
  ·obtain ⟨b',off',hA,-,-,y0,y1⟩:=hr.elG hj;simp only[qE,Addr.mk.injEq,and_true] at hA;obtain ⟨rfl,rfl⟩:=hA;rw[getElem!_pos l j hj] at hv
   match i,hv with
   | 0,hv=>obtain rfl:=sJ hv;exact y0
   | 1,hv=>obtain rfl:=sJ hv;exact y1
  ·rintro e w' ⟨rfl,hq⟩;rw[List.take_length,j3y];exact ⟨rfl,hq⟩
 ·obtain rfl:l=[]:=List.eq_nil_of_length_eq_zero (by omega);refine (y70 A cap _ _ w).mono ?_;rintro e w' ⟨rfl,hq⟩;exact ⟨rfl,hq⟩
theorem x1k (v:z2v) (el:Int) (w:World) (hr:RvR w (Lt w) v):Calls Tryz.prog 123 #[.agg (z0e v),.int .i64 el] w fun e w'=>e=.returned (.bool (j4q v.r el))∧Below w.heap.size w w':=by
 obtain ⟨W2,hW2⟩:∃ W,W=(w.alloc (.cells (z0e v) 56)).alloc (.cells #[.int .i64 el] 3):=⟨_,rfl⟩
 have hb:Below w.heap.size w W2:=by rw[hW2];exact (bQ.alloc nL _).alloc (by simp) _
 have hg:Blk W2 (w.heap.size+1) 3 #[.int .i64 el]:=by rw[hW2];exact Blk.new _ _ _ _ (by simp)
 have hx:Blk W2 w.heap.size 56 (z0e v):=by rw[hW2];exact (Blk.new _ _ _ _ rfl).alloc _
 have HC:=hE fun W (h:Below W2.heap.size W2 W) (l:List Stp) A cap (hl:RdS z1h W (Lt W) A l) (hn:l.length≤maxLen)=>z5p 152 #[.pointer (some ⟨w.heap.size+1,0,none⟩)] (fun x:Stp=>decide (x.el=el)) (enters_of Tryz.func152 (by kernel_rfl) rfl) l A cap W (j3c el _ W (hg.now h)) hl hn
 have hr2:=hr.now hb;obtain ⟨p,hp⟩:∃ p,(v.r.path.any fun s=>decide (s.el=el))=p:=⟨_,rfl⟩
 obtain ⟨q,hq⟩:∃ q,(v.r.over.any fun s=>decide (s.el=el))=q:=⟨_,rfl⟩
 have HX:Hid ((p || q)=j4q v.r el):=hE (by unfold j4q;rw[hp,hq]);have HP:=HC.out W2 bQ v.r.path v.A1 v.c1 hr2.r1 hr2.o.n1.1;have HO:=hE fun W (h:Below W2.heap.size W2 W)=>HC.out W h v.r.over v.A4 v.c4 (hr2.now h).r4 hr2.o.n4.1
 rw[hp] at HP;rw[hq] at HO;have HP:=hE HP;clear hp hq HC;have x3:=hx.cell 3;have x8:=hx.cell 8;have xl:=hx.lt;simp only[gqA,gqZ,gqS] at x3 x8;have HS:Hid (∀ W,Below W2.heap.size W2 W→W.cell? ⟨w.heap.size,8,none⟩=some (.slice v.A4 v.r.over.length v.c4)∧w.heap.size < W.heap.size):=hE fun W h=>⟨(h.cell xl).trans x8,nT xl h.size⟩
 go_enter Tryz.func123,Tryz.ntmps123
 go_wp2_with fail;rw[←hW2];clear hW2;go_wp2_with fail
 refine HP.out.mono ?_;rintro e w3 ⟨rfl,hq3⟩;have hb3:=z00 hb hb.size hq3;obtain ⟨z8,zl⟩:=HS.out _ hq3;cases p
 ·go_wp2_with fail;refine (HO.out _ hq3).mono ?_;rintro e w4 ⟨rfl,hq4⟩;have hb4:=z00 hb3 hb3.size hq4;go_wp2_with fail
  go_ret;exact ⟨z0a (by rw[←HX.out];simp),hb4⟩
 ·go_wp2_with fail;go_ret
  exact ⟨z0a (by rw[←HX.out];simp),hb3⟩
theorem x4d (v:z2v) (x:Stg) (w:World) (hr:RvR w (Lt w) v):Calls Tryz.prog 153 #[.agg (z0e v),.agg #[.int .i64 x.el,.int .i64 x.pos]] w fun e w'=>e=.returned (.bool (y7r v.r x))∧Below w.heap.size w w':=by
 obtain ⟨W2,hW2⟩:∃ W,W=(w.alloc (.cells (z0e v) 56)).alloc (.cells #[.int .i64 x.el,.int .i64 x.pos] 78):=⟨_,rfl⟩
 have hb:Below w.heap.size w W2:=by rw[hW2];exact (bQ.alloc nL _).alloc (by simp) _
 have hg:Blk W2 (w.heap.size+1) 78 #[.int .i64 x.el,.int .i64 x.pos]:=by rw[hW2];exact Blk.new _ _ _ _ (by simp)
 have hx:Blk W2 w.heap.size 56 (z0e v):=by rw[hW2];exact (Blk.new _ _ _ _ rfl).alloc _
 have hr2:=hr.now hb;have HC1:=hE (fun W (h:Below W2.heap.size W2 W)=>z4c x v.r.pts v.A2 v.c2 W (hr2.now h).r2 hr2.o.n2.1);have HC2:=hE (fun W (h:Below W2.heap.size W2 W)=>z4c x v.r.opts v.A5 v.c5 W (hr2.now h).r5 hr2.o.n5.1);have HC3:=hE (fun W (h:Below W2.heap.size W2 W)=>z4c x v.r.flk v.A7 v.c7 W (hr2.now h).r7 hr2.o.n7.1);obtain ⟨p,hp⟩:∃ p,decide (x∈v.r.pts)=p:=⟨_,rfl⟩
 obtain ⟨q,hq⟩:∃ q,decide (x∈v.r.opts)=q:=⟨_,rfl⟩
 obtain ⟨r,hrr⟩:∃ r,decide (x∈v.r.flk)=r:=⟨_,rfl⟩
 have HX:Hid ((p || (q || r))=y7r v.r x):=hE (by unfold y7r;rw[hp,hq,hrr]);rw[hp] at HC1;rw[hq] at HC2;rw[hrr] at HC3;clear hp hq hrr;have HS:Hid (∀ W,Below W2.heap.size W2 W→W.cell? ⟨w.heap.size,4,none⟩=some (.slice v.A2 v.r.pts.length v.c2)∧W.cell? ⟨w.heap.size,9,none⟩=some (.slice v.A5 v.r.opts.length v.c5)∧W.cell? ⟨w.heap.size,11,none⟩=some (.slice v.A7 v.r.flk.length v.c7)∧w.heap.size < W.heap.size∧w.heap.size+1 < W.heap.size∧W.cell? ⟨w.heap.size+1,0,none⟩=some (.int .i64 x.el)∧W.cell? ⟨w.heap.size+1,1,none⟩=some (.int .i64 x.pos)):=hE fun W h=>⟨(hx.now h).cell 4,(hx.now h).cell 9,(hx.now h).cell 11,(hx.now h).lt,(hg.now h).lt,(hg.now h).cell 0,(hg.now h).cell 1⟩
 clear hx hg hr hr2;obtain ⟨xa,xb⟩:=x;dsimp only at HC1 HC2 HC3 HS hW2 ⊢;go_enter Tryz.func153,Tryz.ntmps153
 go_wp2_with fail;rw[←hW2];clear hW2;obtain ⟨z4,z9,z11,zl,zk,l0,l1⟩:=HS.out _ bQ;go_wp2_with fail
 refine (HC1.out _ bQ).mono ?_;rintro e w3 ⟨rfl,hq3⟩;have hb3:=z00 hb hb.size hq3;clear z4 z9 z11 zl zk l0 l1;obtain ⟨z4,z9,z11,zl,zk,l0,l1⟩:=HS.out _ hq3;cases p
 ·go_wp2_with fail;refine (HC2.out _ hq3).mono ?_;rintro e w4 ⟨rfl,hq4⟩;have hb4:=z00 hb3 hb3.size hq4;have hq4':=z00 hq3 hq3.size hq4;clear z4 z9 z11 zl zk l0 l1;obtain ⟨z4,z9,z11,zl,zk,l0,l1⟩:=HS.out _ hq4';cases q
  ·go_wp2_with fail;refine (HC3.out _ hq4').mono ?_;rintro e w5 ⟨rfl,hq5⟩;have hb5:=z00 hb4 hb4.size hq5;go_wp2_with fail
   go_ret;exact ⟨z0a (by rw[←HX.out];simp),hb5⟩
  ·go_wp2_with fail;go_ret
   exact ⟨z0a (by rw[←HX.out];simp),hb4⟩
 ·go_wp2_with fail;go_ret
  exact ⟨z0a (by rw[←HX.out];simp),hb3⟩
theorem x1m (v:LV) (hm:v.l.els.length≤1000) (w:World) (hr:LvR w v):Calls Tryz.prog 17 #[lvA v] w (y35 cI 3 w (z1m v.l)):=by
 obtain ⟨i0,hi0,hz0,hz1,hz2⟩:=info_parts j5z;have hbx:=Lx.new hr;obtain ⟨pf,hpf⟩:∃ pf:Nat→List Int,pf=fun k=>((List.range k).map fun (i:Nat)=>(i:Int)).filter fun i=>decide (z0s v.l i=2):=⟨_,rfl⟩
 have HPE:Hid (pf v.l.els.length=z1m v.l):=hE (by rw[hpf];rfl);have HL:Hid (∀ k,(pf k).length≤k):=hE fun k=>by rw[hpf];exact nR (List.length_filter_le _ _) (by simp)
 have HS:Hid (∀ k (h:k < v.l.els.length),pf (k+1)=pf k++(if v.l.els[k].kind=2 then [(k:Int)] else [])):=hE fun k h=>by
  have hk:z0s v.l (k:Int)=v.l.els[k].kind:=by simp[z0s,h]
  subst hpf;simp only[List.range_succ,List.map_append,List.filter_append,List.map_cons,List.map_nil];congr 1;by_cases he:v.l.els[k].kind=2 <;> simp[hk,he]
 have HZ:Hid (pf 0=[]):=hE (by rw[hpf];rfl);clear hpf;unfold lvA;go_enter Tryz.func17,Tryz.ntmps17
 go_wp2_with fail;go_loopw [3,9] (fun s n wr=>∃ k:Nat,k≤v.l.els.length∧n=.int .i64 k∧z09 cI wr w.heap.size 3 s (pf k) 0∧Lx w wr v) (fun _ n _=>v.l.els.length - (intOf n).toNat)
 case atStart=>exact ⟨0,nZ,rfl,by rw[HZ.out];exact z09.nil _ _ _ _ nZ,hbx⟩
 case round=>
  obtain ⟨k,hk,rfl,hown,hb⟩:=hrel;clear hbx;have hsz:=hb.bel.size;by_cases hlt:k < v.l.els.length
  ·have hki:(k:Int) < (v.l.els.length:Int):=by omega
   obtain ⟨b,off,hA,lb,ho,y0,y1,y2,y3,y4,y5,y6⟩:=hb.rd.r2.elE hlt;have hba:=hb.alloc (.cells #[.string (bs v.l.els[k].name),.int .i64 v.l.els[k].kind,.int .i64 v.l.els[k].len,.int .i64 v.l.els[k].grd,.int .i64 v.l.els[k].spd,.int .i64 v.l.els[k].slow,.int .i64 v.l.els[k].sec] 103);have hown1:=hown.alloc (.cells #[.string (bs v.l.els[k].name),.int .i64 v.l.els[k].kind,.int .i64 v.l.els[k].len,.int .i64 v.l.els[k].grd,.int .i64 v.l.els[k].spd,.int .i64 v.l.els[k].slow,.int .i64 v.l.els[k].sec] 103);have hsa:=hba.bel.size;rw[hA];have hs1:=HS.out k hlt;have hkl:=HL.out k;by_cases hx:v.l.els[k].kind=2
   ·have HN:Hid (pf (k+1)=pf k++[(k:Int)]):=hE (by rw[hs1,if_pos hx]);have hxb:(v.l.els[k].kind==2)=true:=by simp[hx]
    clear hx hA ho hs1;generalize v.l.els[k]=q at *;generalize hM:pf k=ms at *;clear hM;go_wp2_with (at_builtin;go_loud (refine z0h (c:=cI) _ rfl _ _ 31 rfl w.heap.size 3 i0 _ 8 Tryz.underlying31 hi0 hz0 hz1 hz2 rfl (by decide) _ ms 0 rfl hown1 [_] (k:Int) ⟨rfl,by unfold z0p;omega⟩ (by simp[Value.oneCell']) _ (by simp[Act.eval]) (by omega) (by omega) (by simp;omega) ?_);intro v' w5 hown5 hf5 hs5)
    go_roundw
    case rel=>exact ⟨k+1,by omega,by go_num,by rw[HN.out];exact hown5,⟨hf5.keeps nL hsa hba.bel,hf5.blk hba.blk (by decide),hr.now (hf5.keeps nL hsa hba.bel)⟩⟩
    case measure=>simp[intOf];omega
   ·have HN:Hid (pf (k+1)=pf k):=hE (by rw[hs1,if_neg hx];simp);have hxb:(v.l.els[k].kind==2)=false:=by rw[beq_eq_false_iff_ne];exact hx
    clear hx hA ho hs1;generalize v.l.els[k]=q at *;go_wp2_with fail
    go_roundw
    case rel=>exact ⟨k+1,by omega,by go_num,by rw[HN.out];exact hown1,hba⟩
    case measure=>simp[intOf];omega
  ·obtain rfl:k=v.l.els.length:=by omega
   rw[HPE.out] at hown;obtain ⟨A',c',hv⟩:=hown.form;have HO:=hE hown;have hbb:=hb.bel;clear hown HS HL HPE;subst hv;generalize z1m v.l=ns at *;go_wp2_with fail
   go_ret;exact z0x rfl rfl HO.out hbb
end Go.Proofs.YtpenlfedkacglaaGreatDoor
namespace Go.Proofs.YtpenlfedkacglaaGreatDoor
open Go.RowKit Go.Shelf Go.Lib
attribute [local go_sem] z05 z07 z01 z02
attribute [-go_sem] run_equalIn_agg
attribute [-go_sem] loadCellsFrom
def j9h (e:Ending):Prop:=∃ u pv,e=.panicked [{ v:=.iface u pv,recovered:=false }]
def j8h (r:Option Stg) (e:Ending):Prop:=match r with
 | some s=>e=.returned (.agg #[.int .i64 s.el,.int .i64 s.pos])
 | none=>j9h e
theorem x6g (v:z2v) (f:z0o) (w:World) (E:EnvR w) (hr:RvR w (Lt w) v):Calls Tryz.prog 124 #[.agg (z0e v),.agg #[.int .i64 f.el,.int .i64 f.sd]] w fun e w'=>j8h (y1k v.r f) e∧Below w.heap.size w w':=by
 obtain ⟨W2,hW2⟩:∃ W,W=((w.alloc (.cells (z0e v) 56)).alloc (.cells #[.int .i64 f.el,.int .i64 f.sd] 90)).alloc (.cells #[.int .i64 0,.int .i64 0] 78):=⟨_,rfl⟩
 have hb:Below w.heap.size w W2:=by rw[hW2];exact ((bQ.alloc nL _).alloc (by simp) _).alloc (by simp;omega) _
 have hz:Blk W2 (w.heap.size+1+1) 78 #[.int .i64 0,.int .i64 0]:=by rw[hW2];exact Blk.new _ _ _ _ (by simp)
 have hg:Blk W2 (w.heap.size+1) 90 #[.int .i64 f.el,.int .i64 f.sd]:=by rw[hW2];exact (Blk.new _ _ _ _ (by simp)).alloc _
 have hx:Blk W2 w.heap.size 56 (z0e v):=by rw[hW2];exact ((Blk.new _ _ _ _ rfl).alloc _).alloc _
 have hr2:=hr.now hb;have HN:=hE (y3z 2 f.sd 0 W2 (E.now hb));have HD:=hE fun (x:Stg) W (h:Below W2.heap.size W2 W)=>x4d v x W (hr2.now h)
 have HS:Hid (∀ W,Below W2.heap.size W2 W→W.cell? ⟨w.heap.size+1,0,none⟩=some (.int .i64 f.el)∧W.cell? ⟨w.heap.size+1,1,none⟩=some (.int .i64 f.sd)∧w.heap.size < W.heap.size∧w.heap.size+1 < W.heap.size∧Sem.run Tryz.prog (loadCellsFrom ⟨w.heap.size+1,0,none⟩ 0 2 #[]) W=.ok #[.int .i64 f.el,.int .i64 f.sd] W):=hE fun W h=>⟨(hg.now h).cell 0,(hg.now h).cell 1,(hx.now h).lt,(hg.now h).lt,z04 (hg.now h) 2 rfl⟩
 have HL:Hid (∀ W,Below W2.heap.size W2 W→Sem.run Tryz.prog (loadCellsFrom ⟨w.heap.size,0,none⟩ 0 14 #[]) W=.ok (z0e v) W):=hE fun W h=>z04 (hx.now h) 14 rfl
 have HZ:Hid (∀ W,Below W2.heap.size W2 W→Blk W (w.heap.size+1+1) 78 #[.int .i64 0,.int .i64 0]):=hE fun W h=>hz.now h
 have HA:Hid (y1k v.r f=match z2a 2 f.sd 0 with
  | some p=>if y7r v.r ⟨f.el,p⟩=true then none else some ⟨f.el,3 - p⟩
  | none=>none):=hE rfl
 have hqp:∀ q,z2a 2 f.sd 0=some q→q=1∨q=2∨q=0:=fun q hq=>by
  unfold z2a at hq;rw[Option.map_eq_some_iff] at hq;obtain ⟨p,hp,rfl⟩:=hq;have:=List.mem_of_find?_eq_some hp;simp only[z2i,List.mem_cons,List.not_mem_nil,or_false] at this;rcases this with rfl | rfl | rfl | rfl | rfl | rfl | rfl | rfl | rfl | rfl <;> simp
 clear hx hg hr hr2 hz E;obtain ⟨el,sd⟩:=f;dsimp only at *;obtain ⟨nd,hnd⟩:∃ nd,z2a 2 sd 0=nd:=⟨_,rfl⟩
 rw[hnd] at HN HA hqp;clear hnd;go_enter Tryz.func124,Tryz.ntmps124
 go_wp2_with fail;rw[←hW2];clear hW2;obtain ⟨z0,z1,zl,zk,lk⟩:=HS.out _ bQ;go_wp2_with fail
 refine HN.out.mono ?_;rintro e w3 ⟨rfl,hq3⟩;have hb3:=z00 hb hb.size hq3;clear z0 z1 zl zk lk;obtain ⟨z0,z1,zl,zk,lk⟩:=HS.out _ hq3
 cases nd with
 | none=>
  have HA2:=HA.out;dsimp only at HA2;have HA3:=hE HA2;clear HA2 HA HD HL HZ HN;simp only[Option.getD_none,Option.isSome_none];go_wp2_with fail
  exact ⟨rfl,by rw[HA3.out];exact ⟨_,_,rfl⟩,hb3⟩
 | some q=>
  have HQ:=hE (hqp q rfl);obtain ⟨n,hn⟩:∃ n,y7r v.r ⟨el,q⟩=n:=⟨_,rfl⟩
  have HN2:=HD.out ⟨el,q⟩ w3 hq3;rw[hn] at HN2;have HA2:=HA.out;dsimp only at HA2 HN2;rw[hn] at HA2;have HN2:=hE HN2;have HA3:=hE HA2;clear HA HA2 HD HN hn hqp;have ld:=HL.out _ hq3;simp only[Option.getD_some,Option.isSome_some];go_wp2_with fail
  refine HN2.out.mono ?_;rintro e w4 ⟨rfl,hq4⟩;have hb4:=z00 hb3 hb3.size hq4;have hq4':=z00 hq3 hq3.size hq4;clear z0 z1 zl zk lk ld;obtain ⟨z0,z1,zl,zk,lk⟩:=HS.out _ hq4';cases n
  ·have hzz:=HZ.out _ hq4';have p0:=hzz.cell 0;have p1:=hzz.cell 1;have pl:=hzz.lt;have pf:=hzz.free;obtain ⟨b',h1,h2⟩:∃ b',Frm (w.heap.size+1+1) 78 w4 ((w4.setCell ⟨w.heap.size+1+1,0,none⟩ (.int .i64 el)).setCell ⟨w.heap.size+1+1,1,none⟩ (.int .i64 (3 - q)))∧b' = 0:=⟨0,z0l (w:=w4) [.int .i64 el,.int .i64 (3 - q)] 0 hzz nL,rfl⟩
   have hbX:=h1.keeps (by omega) hb4.size hb4;have hp:Blk ((w4.setCell ⟨w.heap.size+1+1,0,none⟩ (.int .i64 el)).setCell ⟨w.heap.size+1+1,1,none⟩ (.int .i64 (3 - q))) (w.heap.size+1+1) 78 #[.int .i64 el,.int .i64 (3 - q)]:=by
    obtain ⟨cur',h1,h2⟩:=z4d [.int .i64 el,.int .i64 (3 - q)] 0 hzz (by simp);have h3:cur' = #[.int .i64 el,.int .i64 (3 - q)]:=Array.toList_inj.1 h2;rw[h3] at h1;exact h1
   have hq0:q=1∨q=2∨q=0:=HQ.out;have hm1:-9223372036854775808≤3 - q:=by omega
   have hm2:3 - q≤9223372036854775807:=by omega
   have hm:wrap64 (3 - q)=3 - q:=Go.IntWalk.wrap64_in _ ⟨hm1,hm2⟩;clear h1 hzz;go_wp2_with fail
   have ldp:=z04 hp 2 rfl;have pl2:=hp.lt;refine bodyPost_ret (v:=.agg #[.int .i64 el,.int .i64 (3 - q)]) (by simp[results,Tryz.results124,go_sem,ldp,pl2]) rfl ?_;exact ⟨by rw[HA3.out];rfl,hbX⟩
  ·have HA4:y1k v.r ⟨el,sd⟩=none:=by rw[HA3.out];rfl
   have HA4:=hE HA4;go_wp2_with fail
   exact ⟨rfl,by rw[HA4.out];exact ⟨_,_,rfl⟩,hb4⟩
theorem x7h (l:LV) (v:z2v) (w:World) (hl:LvR w l) (hx1:v.r.ext < (l.l.sgs.length:Int)):Calls Tryz.prog 92 #[lvA l,.agg (z0e v)] w fun e w'=>(v.r.ext < 0→e=.returned (.tuple #[.agg #[.string (ByteArray.mk #[]),.int .i64 0,.int .i64 0,.int .i64 0],.bool false]))∧(∀ j (h:j < l.l.sgs.length),v.r.ext=(j:Int)→e=.returned (.tuple #[.agg #[.string (bs l.l.sgs[j].name),.int .i64 l.l.sgs[j].pos.el,.int .i64 l.l.sgs[j].pos.sd,.int .i64 l.l.sgs[j].ovl],.bool true]))∧Below w.heap.size w w':=by
 obtain ⟨W2,hW2⟩:∃ W,W=((w.alloc (.cells (z1c l) 28)).alloc (.cells (z0e v) 56)).alloc (.cells #[.string (ByteArray.mk #[]),.int .i64 0,.int .i64 0,.int .i64 0] 105):=⟨_,rfl⟩
 have hb:Below w.heap.size w W2:=by rw[hW2];exact ((bQ.alloc nL _).alloc (by simp) _).alloc (by simp;omega) _
 have hz:Blk W2 (w.heap.size+1+1) 105 #[.string (ByteArray.mk #[]),.int .i64 0,.int .i64 0,.int .i64 0]:=by rw[hW2];exact Blk.new _ _ _ _ (by simp)
 have hg:Blk W2 (w.heap.size+1) 56 (z0e v):=by rw[hW2];exact (Blk.new _ _ _ _ (by simp)).alloc _
 have hx:Blk W2 w.heap.size 28 (z1c l):=by rw[hW2];exact ((Blk.new _ _ _ _ rfl).alloc _).alloc _
 have x4:=hx.cell 4;have g2:=hg.cell 2;have xl:=hx.lt;have gl:=hg.lt;have zl:=hz.lt;have zf:=hz.free;have z0:=hz.cell 0;have z1:=hz.cell 1;have z2:=hz.cell 2;have z3:=hz.cell 3;simp only[gqA,gqZ,gqS] at x4 g2 z0 z1 z2 z3;have hn4:=hl.n4.1;unfold maxLen at hn4;have hl2:=hl.now hb;have HP:Hid (∀ s:Sgn,Blk (W2.setCells (w.heap.size+1+1) 0 [.string (bs s.name),.int .i64 s.pos.el,.int .i64 s.pos.sd,.int .i64 s.ovl]) (w.heap.size+1+1) 105 #[.string (bs s.name),.int .i64 s.pos.el,.int .i64 s.pos.sd,.int .i64 s.ovl]∧Frm (w.heap.size+1+1) 105 W2 (W2.setCells (w.heap.size+1+1) 0 [.string (bs s.name),.int .i64 s.pos.el,.int .i64 s.pos.sd,.int .i64 s.ovl])):=hE fun s=>⟨by
  obtain ⟨cur',h1,h2⟩:=z4d [.string (bs s.name),.int .i64 s.pos.el,.int .i64 s.pos.sd,.int .i64 s.ovl] 0 hz (by simp);have h3:cur' = #[.string (bs s.name),.int .i64 s.pos.el,.int .i64 s.pos.sd,.int .i64 s.ovl]:=Array.toList_inj.1 h2;rw[h3] at h1;exact h1,z0l (w:=W2) [.string (bs s.name),.int .i64 s.pos.el,.int .i64 s.pos.sd,.int .i64 s.ovl] 0 hz nL⟩
 have HZ:Hid (Blk (W2.setCells (w.heap.size+1+1) 0 [.string (ByteArray.mk #[]),.int .i64 0,.int .i64 0,.int .i64 0]) (w.heap.size+1+1) 105 #[.string (ByteArray.mk #[]),.int .i64 0,.int .i64 0,.int .i64 0]∧Frm (w.heap.size+1+1) 105 W2 (W2.setCells (w.heap.size+1+1) 0 [.string (ByteArray.mk #[]),.int .i64 0,.int .i64 0,.int .i64 0])):=hE ⟨by
  obtain ⟨cur',h1,h2⟩:=z4d [.string (ByteArray.mk #[]),.int .i64 0,.int .i64 0,.int .i64 0] 0 hz (by simp);have h3:cur' = #[.string (ByteArray.mk #[]),.int .i64 0,.int .i64 0,.int .i64 0]:=Array.toList_inj.1 h2;rw[h3] at h1;exact h1,z0l (w:=W2) [.string (ByteArray.mk #[]),.int .i64 0,.int .i64 0,.int .i64 0] 0 hz nL⟩
 have HB:=hE hb;unfold lvA;by_cases h0:v.r.ext < 0
 ·have hd:decide (v.r.ext < 0)=true:=by simp[h0]
  have hnj:∀ j:Nat,v.r.ext≠(j:Int):=fun j h=>by omega
  have HNJ:=hE hnj;clear hnj hx hg hl hl2 hz hb;go_enter Tryz.func92,Tryz.ntmps92
  go_upto_region 1 with (fail)
  rw[←hW2];clear hW2;go_wp2_with fail
  obtain ⟨hp,hf⟩:=HZ.out;have ldp:=z04 hp 4 rfl;have pl2:=hp.lt;simp only[World.setCells] at ldp pl2 hf;refine bodyPost_ret (v:=.tuple #[.agg #[.string (ByteArray.mk #[]),.int .i64 0,.int .i64 0,.int .i64 0],.bool false]) (by simp[results,Tryz.results92,go_sem,ldp,pl2]) rfl ?_;exact ⟨fun _=>rfl,fun j h hj=>absurd hj (HNJ.out j),hf.keeps (by omega) HB.out.size HB.out⟩
 ·obtain ⟨j,hj⟩:∃ j:Nat,v.r.ext=(j:Int):=⟨v.r.ext.toNat,by omega⟩
  have hjl:j < l.l.sgs.length:=by omega
  have hji:(j:Int) < (l.l.sgs.length:Int):=by omega
  obtain ⟨b4,off4,hA4,lb4,ho4,q0,q1,q2,q3⟩:=hl2.r4.x36 hjl;have HS2:Hid (∀ j2 (h:j2 < l.l.sgs.length),(j:Int)=(j2:Int)→l.l.sgs[j2]=l.l.sgs[j]):=hE fun j2 h he=>by
   obtain rfl:j=j2:=by omega
   rfl
  have LS:∀ (i:Nat) (y:Value),[.string (bs l.l.sgs[j].name),.int .i64 l.l.sgs[j].pos.el,.int .i64 l.l.sgs[j].pos.sd,.int .i64 l.l.sgs[j].ovl][i]? = some y→W2.cell? ⟨b4,off4+j*4+i,none⟩=some y:=fun i y hy=>match i,hy with
   | 0,hy=>(sJ hy)▸q0
   | 1,hy=>(sJ hy)▸q1
   | 2,hy=>(sJ hy)▸q2
   | 3,hy=>(sJ hy)▸q3
  have lds:=z2e (b:=b4) (o:=off4+j*4) (n:=4) rfl LS;rw[hA4] at x4;rw[hj] at g2;have HJ:=hE hj;unfold z1c z0e at hW2;rw[hA4,hj] at hW2;have HA4:=hE hA4;generalize hsg:l.l.sgs[j]=sg at *;clear hx hg hl hl2 hz hb LS q0 q1 q2 q3 ho4 HZ h0 hx1 hA4 hsg;unfold z1c z0e;rw[HA4.out,HJ.out];clear hj;go_enter Tryz.func92,Tryz.ntmps92
  go_upto_region 1 with (fail)
  rw[←hW2];clear hW2;go_wp2_with fail
  obtain ⟨hp,hf⟩:=HP.out sg;have ldp:=z04 hp 4 rfl;have pl2:=hp.lt;simp only[World.setCells] at ldp pl2 hf;refine bodyPost_ret (v:=.tuple #[.agg #[.string (bs sg.name),.int .i64 sg.pos.el,.int .i64 sg.pos.sd,.int .i64 sg.ovl],.bool true]) (by simp[results,Tryz.results92,go_sem,ldp,pl2]) rfl ?_;exact ⟨fun h=>absurd h (by omega),fun j2 h hj=>by rw[HS2.out j2 h hj],hf.keeps (by omega) HB.out.size HB.out⟩
end Go.Proofs.YtpenlfedkacglaaGreatDoor
namespace Go.Proofs.YtpenlfedkacglaaGreatDoor
open Go.RowKit
attribute [local go_sem] z05 z07 z01 z02
attribute [-go_sem] run_equalIn_agg
attribute [-go_sem] loadCellsFrom
theorem y4l {w:World} {S:Nat→Prop} {b off:Nat} {l:List Stp} (h:RdS z1h w S (some ⟨b,off,none⟩) l) {i:Nat} (hi:i < l.length) {s:Stp} (hs:l[i]=s):Sem.run Tryz.prog (loadCellsFrom ⟨b,off+i*3,none⟩ 0 3 #[]) w=.ok #[.int .i64 s.el,.int .i64 s.inn,.int .i64 s.out] w:=by
 obtain ⟨b',off',hA,-,-,y0,y1,y2⟩:=h.elT hi;simp only[qE,Addr.mk.injEq,and_true] at hA;obtain ⟨rfl,rfl⟩:=hA;rw[hs] at y0 y1 y2
 exact z2e (b:=b) (o:=off+i*3) (n:=3) (ys:=[.int .i64 s.el,.int .i64 s.inn,.int .i64 s.out]) rfl (fun j u hj=>match j,hj with
  | 0,hj=>(sJ hj)▸y0
  | 1,hj=>(sJ hj)▸y1
  | 2,hj=>(sJ hj)▸y2)
def eoF (o:Option z0o):z0o:=o.getD ⟨0,0⟩
def k07:Value→Nat
 | .slice _ k _=>12 - k
 | _=>0
structure StJ (l:LV) (v:z2v) (ovl:Int) (R:List Stp) (w:World) (gs ge:Nat) (sgc:Array Value) (n:Nat) (over:List Stp) (o:Option z0o) (s:Value) (wr:World):Prop where
 len:over.length+n=12
 res:ovF l.l v.r.secs ovl n over o=R
 own:z09 z1h wr w.heap.size 85 s over 0
 bl:Blk wr w.heap.size 28 (z1c l)
 br:Blk wr (w.heap.size+1) 56 (z0e v)
 bs:Blk wr gs 105 sgc
 be:Blk wr ge 90 #[.int .i64 (eoF o).el,.int .i64 (eoF o).sd]
 bel:Below w.heap.size w wr
 i64:∀ e,o=some e→z0p e.el∧z0p e.sd
theorem x97 (l:Lay) (secs:List Int) (ovl:Int) (n:Nat) (over:List Stp):ovF l secs ovl n over none=over:=by cases n <;> rfl
theorem x94 {l:Lay} {secs:List Int} {ovl:Int} {n:Nat} {over:List Stp} {o:Option z0o} (h:¬z1i l over < ovl):ovF l secs ovl n over o=over:=by
 cases n with
 | zero=>rfl
 | succ n=>cases o with
  | none=>rfl
  | some e=>show (if _ then _ else _)=_;rw[if_neg h]
theorem y9d {l:Lay} {secs:List Int} {ovl:Int} {n:Nat} {over:List Stp} {e:z0o} (h:(over.any fun s=>decide (s.el=e.el))=true∨z0d l e.el∈secs):ovF l secs ovl n over (some e)=over:=by
 cases n with
 | zero=>rfl
 | succ n=>show (if _ then (if _ then _ else _) else _)=_;rw[if_pos h];split <;> rfl
theorem j2v {l:Lay} {secs:List Int} {ovl:Int} {n:Nat} {over:List Stp} {e:z0o} (h:brF l e=[]):ovF l secs ovl n over (some e)=over:=by
 cases n with
 | zero=>rfl
 | succ n=>
  show (if _ then (if _ then _ else (match brF l e with | []=>over | s::_=>_)) else _)=_;rw[h];split
  ·split <;> rfl
  ·rfl
theorem j6q {l:Lay} {secs:List Int} {ovl:Int} {n:Nat} {over:List Stp} {e:z0o} {s:Stp} {r:List Stp} (h1:z1i l over < ovl) (h2:¬((over.any fun s=>decide (s.el=e.el))=true∨z0d l e.el∈secs)) (h:brF l e=s::r):ovF l secs ovl (n+1) over (some e)=ovF l secs ovl n (over++[s]) (z7m l s):=by
 show (if _ then (if _ then _ else (match brF l e with | []=>over | s::_=>_)) else _)=_;rw[if_pos h1,if_neg h2,h]
theorem x5t (l:LV) (v:z2v) (w:World) (E:EnvR w) (hK:z9a l.l) (hl:LvR w l) (hr:RvR w (Lt w) v) (hx1:v.r.ext < (l.l.sgs.length:Int)):Calls Tryz.prog 46 #[lvA l,.agg (z0e v)] w (y35 z1h 85 w (z4x l.l v.r)):=by
 obtain ⟨i0,hi,hy0,hy1,hy2⟩:=info_parts z3d;obtain ⟨W2,hW2⟩:∃ W,W=(w.alloc (.cells (z1c l) 28)).alloc (.cells (z0e v) 56):=⟨_,rfl⟩
 have hb:Below w.heap.size w W2:=by rw[hW2];exact (bQ.alloc nL _).alloc (by simp) _
 have hg:Blk W2 (w.heap.size+1) 56 (z0e v):=by rw[hW2];exact Blk.new _ _ _ _ (by simp)
 have hx:Blk W2 w.heap.size 28 (z1c l):=by rw[hW2];exact (Blk.new _ _ _ _ rfl).alloc _
 have HE:=hE (x7h l v W2 (hl.now hb) hx1);have ld0:=z04 hx 6 rfl;have ld1:=z04 hg 14 rfl;unfold lvA at HE ⊢;go_enter Tryz.func46,Tryz.ntmps46
 go_upto_region 1 with (fail)
 rw[←hW2];clear hW2;go_wp2_with fail
 refine HE.out.mono ?_;rintro e w3 ⟨he0,he1,hq3⟩;have hb3:=z00 hb hb.size hq3;have hx3:=hx.now hq3;have hg3:=hg.now hq3;clear HE ld0 ld1;by_cases h0:v.r.ext < 0
 ·obtain rfl:=he0 h0;have HZ:=hE (show z4x l.l v.r=[] by unfold z4x;rw[if_neg (by omega)]);clear he0 he1 h0 hx hg hx3 hg3 hx1;go_wp2_with fail
  go_ret;exact z0x HZ.out.symm rfl (z09.nil _ _ _ _ nZ) (blz)
 obtain ⟨j,hj⟩:∃ j:Nat,v.r.ext=(j:Int):=⟨v.r.ext.toNat,by omega⟩
 have hjl:j < l.l.sgs.length:=by omega
 obtain rfl:=he1 j hjl hj;have HR:=hE (show ovF l.l v.r.secs l.l.sgs[j].ovl 12 [] (z03 l.l.jts l.l.sgs[j].pos)=z4x l.l v.r by
  unfold z4x;rw[if_pos ⟨by omega,hx1⟩,hj];simp[j8z,y4i,hjl])
 have h3:RvR w (Lt w) v:=hr;have hn3:=hr.o.n3.1;obtain ⟨sg,hsg⟩:∃ sg,l.l.sgs[j]=sg:=⟨_,rfl⟩
 rw[hsg] at HR ⊢;obtain ⟨W4,hW4⟩:∃ W,W=w3.alloc (.cells #[.string (bs sg.name),.int .i64 sg.pos.el,.int .i64 sg.pos.sd,.int .i64 sg.ovl] 105):=⟨_,rfl⟩
 have hb4:Below w.heap.size w W4:=by rw[hW4];exact hb3.alloc hb3.size _
 have hx4:Blk W4 w.heap.size 28 (z1c l):=by rw[hW4];exact hx3.alloc _
 have hg4:Blk W4 (w.heap.size+1) 56 (z0e v):=by rw[hW4];exact hg3.alloc _
 have hs4:Blk W4 w3.heap.size 105 #[.string (bs sg.name),.int .i64 sg.pos.el,.int .i64 sg.pos.sd,.int .i64 sg.ovl]:=by rw[hW4];exact Blk.new _ _ _ _ rfl
 have HJ:=hE (z6g l sg.pos W4 (hl.now hb4));unfold lvA at HJ;clear he0 he1 h0 hj hsg hx hg hx3 hg3 hx1;go_upto_region 5 with (fail)
 rw[←hW4];clear hW4;have ld0:=z04 hx4 6 rfl
 have ld1:Sem.run Tryz.prog (loadCellsFrom ⟨w3.heap.size,1,none⟩ 0 2 #[]) W4=.ok #[.int .i64 sg.pos.el,.int .i64 sg.pos.sd] W4:=z2e (w:=W4) (b:=w3.heap.size) (o:=1) (n:=2) (ys:=[.int .i64 sg.pos.el,.int .i64 sg.pos.sd]) rfl (fun j u hj=>match j,hj with
  | 0,hj=>(sJ hj)▸hs4.cell 1
  | 1,hj=>(sJ hj)▸hs4.cell 2)
 have xl:=hs4.lt;go_wp2_with fail
 refine HJ.out.mono ?_;rintro e w5 ⟨rfl,hq5⟩;have hb5:=z00 hb4 hb4.size hq5;obtain ⟨o0,ho0⟩:∃ o,z03 l.l.jts sg.pos=o:=⟨_,rfl⟩
 have ho64:∀ e,o0=some e→z0p e.el∧z0p e.sd:=fun e he=>z3b (w:=w) (S:=Lt w) (fun j hj=>by
  obtain ⟨i,hi,rfl⟩:=List.getElem_of_mem hj;obtain ⟨_,_,_,_,ho,_⟩:=hl.r3.elJ hi;exact ⟨ho.1,ho.2⟩) (ho0.trans he)
 rw[ho0] at HR ⊢;have hjv:z6w o0=.tuple #[.agg #[.int .i64 (eoF o0).el,.int .i64 (eoF o0).sd],.bool o0.isSome]:=rfl;rw[hjv];have HB5:=hE (show StJ l v sg.ovl (z4x l.l v.r) w w3.heap.size w5.heap.size #[.string (bs sg.name),.int .i64 sg.pos.el,.int .i64 sg.pos.sd,.int .i64 sg.ovl] 12 [] o0 (.slice none 0 0) (w5.alloc (.cells #[.int .i64 (eoF o0).el,.int .i64 (eoF o0).sd] 90)) from
  ⟨rfl,HR.out,z09.nil _ _ _ _ nZ,(hx4.now hq5).alloc _,(hg4.now hq5).alloc _,(hs4.now hq5).alloc _,Blk.new _ _ _ _ rfl,hb5.alloc hb5.size _,ho64⟩)
 obtain ⟨q0,hq0⟩:∃ q,o0.isSome=q:=⟨_,rfl⟩
 obtain ⟨ae,hae⟩:∃ a,(eoF o0).el=a:=⟨_,rfl⟩
 obtain ⟨ad,had⟩:∃ a,(eoF o0).sd=a:=⟨_,rfl⟩
 rw[hq0,hae,had];rw[hae,had] at HB5;have HQ0:=hE hq0;clear hq0 hae had hjv ho0 ho64 HR ld0 ld1 xl HJ hx4 hg4 hs4 hq3 hb hb4;go_wp2_with fail
 go_loopw [6,7] (fun ok s wr=>∃ (n:Nat) (over:List Stp) (o:Option z0o),ok=.bool o.isSome∧StJ l v sg.ovl (z4x l.l v.r) w w3.heap.size w5.heap.size #[.string (bs sg.name),.int .i64 sg.pos.el,.int .i64 sg.pos.sd,.int .i64 sg.ovl] n over o s wr) (fun _ s _=>k07 s)
 case atStart=>exact ⟨12,[],o0,by rw[HQ0.out],HB5.out⟩
 case round=>
  obtain ⟨n,over,o,rfl,hJ⟩:=hrel;clear HB5 HQ0;obtain ⟨A,cap,hv⟩:=hJ.own.form;subst hv;have hres:=hE hJ.res;have hbl:=hJ.bl;have hbr:=hJ.br;have hbs:=hJ.bs;have hbe:=hJ.be;have hbw:=hJ.bel;have hown:=hJ.own;have hlen:=hJ.len;have hi64:=hJ.i64;clear hJ;obtain ⟨hno,hro⟩:=hown.rdn;have hro2:RdS z1h wr (Lt wr) A over:=hro.more fun b h=>h.2
  cases o with
  | none=>
   have HX:=hE (show over=z4x l.l v.r by rw[←hres.out,x97]);have HO:=hE hown;clear hres hown hro hro2 hbe hi64;dsimp only [Option.isSome_none];go_wp2_with fail
   refine rgH 14 (S:=(fun _=>True)) (trivial) fun hHeld=>?_
   refine tkM 14 [0,1,2,3,4,5,6,7,8,9,10,11,12,13] ?_;refine wdn ?_;go_wp2_with fail
   go_ret
   exact z0x HX.out rfl HO.out.drew hbw.drew
  | some e=>
   have he64:=hi64 e rfl;have hbe:Blk wr w5.heap.size 90 #[.int .i64 e.el,.int .i64 e.sd]:=hbe;have HWL:=hE fun W' (h:Below wr.heap.size wr W')=>y9w l hK over A cap W' (hl.now (z00 hbw hbw.size h)) (hro2.now h) (by omega)
   unfold lvA at HWL;have HSS:Hid (∀ W,Below wr.heap.size wr W→(fun w'=>Sem.run Tryz.prog (loadCellsFrom ⟨w.heap.size,0,none⟩ 0 6 #[]) w' = .ok (z1c l) w'∧w'.cell? ⟨w3.heap.size,3,none⟩=some (.int .i64 sg.ovl)) W):=hE fun W h=>⟨z04 (hbl.now h) 6 rfl,(hbs.now h).cell 3⟩
   obtain ⟨z,hz⟩:∃ z,z1i l.l over=z:=⟨_,rfl⟩
   rw[hz] at HWL;have HZ:=hE hz;clear hz hi64 hro;dsimp only [Option.isSome_some];by_cases hzl:z < sg.ovl;case neg=>
    have t1:decide (z < sg.ovl)=false:=by simpa using hzl
    have HX:=hE (show over=z4x l.l v.r by rw[←hres.out,x94 (by rw[HZ.out];exact hzl)]);clear hres hzl;go_wp2_with fail
    refine rgS 14 HSS fun hHeld=>?_
    refine tkM 6 [0,1,2,3,5,6] ?_;refine rd1 4 rfl fun K hK=>?_
    go_simp;go_at_call 93
    refine (HWL.out _ bQ.drew).mono ?_;rintro e4 w6 ⟨rfl,hq6⟩;have hq6':Below wr.heap.size wr w6:=bQ.drew.trans hq6;go_wp2_with fail
    refine hK.out _ _ (HSS.out _ hq6') (fun hHeld=>?_);clear hK K;try simp only[Act.put,lsa,lsz,lss]
    refine tkM 7 [7,8,9,10,11,12,13] ?_;refine wdn ?_;have hbl:=hbl.now hq6';have hbr:=hbr.now hq6';have hbs:=hbs.now hq6';have hbe:=hbe.now hq6';have hown:=hown.now hq6';have hbw:=z00 hbw hbw.size hq6';have hro2:=hro2.now hq6';clear hHeld HSS HWL hq6 hq6';have HO:=hE hown;clear hown hro2;go_wp2_with fail
    go_ret;exact z0x HX.out rfl HO.out hbw
   case pos=>
    have t1:decide (z < sg.ovl)=true:=by simpa using hzl
    have HZL:=hE (show z1i l.l over < sg.ovl by rw[HZ.out];exact hzl);clear hzl;by_cases h12:over.length < 12;case neg=>
     have t2:decide ((over.length:Int) < 12)=false:=by simp;omega
     have HX:=hE (show over=z4x l.l v.r by rw[←hres.out,show n=0 by omega];rfl);have h12':¬(over.length:Int) < 12:=by omega
     clear hres h12;go_wp2_with fail
     refine rgS 14 HSS fun hHeld=>?_
     refine tkM 6 [0,1,2,3,5,6] ?_;refine rd1 4 rfl fun K hK=>?_
     go_simp;go_at_call 93
     refine (HWL.out _ bQ.drew).mono ?_;rintro e4 w6 ⟨rfl,hq6⟩;have hq6':Below wr.heap.size wr w6:=bQ.drew.trans hq6;go_wp2_with fail
     refine hK.out _ _ (HSS.out _ hq6') (fun hHeld=>?_);clear hK K;try simp only[Act.put,lsa,lsz,lss]
     refine tkM 7 [7,8,9,10,11,12,13] ?_;refine wdn ?_;have hbl:=hbl.now hq6';have hbr:=hbr.now hq6';have hbs:=hbs.now hq6';have hbe:=hbe.now hq6';have hown:=hown.now hq6';have hbw:=z00 hbw hbw.size hq6';have hro2:=hro2.now hq6';clear hHeld HSS HWL hq6 hq6';have HO:=hE hown;clear hown hro2;go_wp2_with fail
     go_ret;exact z0x HX.out rfl HO.out hbw
    case pos=>
     have t2:decide ((over.length:Int) < 12)=true:=by simp;omega
     have h12':(over.length:Int) < 12:=by omega
     obtain ⟨m,rfl⟩:∃ m,n=m+1:=⟨n - 1,by omega⟩
     go_wp2_with fail;refine rgS 14 HSS fun hHeld=>?_
     refine tkM 6 [0,1,2,3,5,6] ?_;refine rd1 4 rfl fun K hK=>?_
     go_simp;go_at_call 93
     refine (HWL.out _ bQ.drew).mono ?_;rintro e4 w6 ⟨rfl,hq6⟩;have hq6':Below wr.heap.size wr w6:=bQ.drew.trans hq6;go_wp2_with fail
     refine hK.out _ _ (HSS.out _ hq6') (fun hHeld=>?_);clear hK K;try simp only[Act.put,lsa,lsz,lss]
     refine tkM 7 [7,8,9,10,11,12,13] ?_;refine wdn ?_;have hbl:=hbl.now hq6';have hbr:=hbr.now hq6';have hbs:=hbs.now hq6';have hbe:=hbe.now hq6';have hown:=hown.now hq6';have hbw:=z00 hbw hbw.size hq6';have hro2:=hro2.now hq6';clear hHeld HSS HWL hq6 hq6';go_wp2_with fail
     rename World=>wp
     have HCO:=hE fun W' (h:Below wp.heap.size wp W')=>x0j over A cap e.el W' (hro2.now h) (by unfold maxLen;omega)
     have HSE:=hE fun W' (h:Below wp.heap.size wp W')=>z3c l e.el W' (hl.now (z00 hbw hbw.size h))
     unfold lvA at HSE;have HOB:=hE fun W' (h:Below wp.heap.size wp W')=>y1n (z0d l.l e.el) v.r.secs v.A3 v.c3 W' ((hr.now (z00 hbw hbw.size h)).r3) hn3
     have HSS:Hid (∀ W,Below wp.heap.size wp W→(fun w'=>Sem.run Tryz.prog (loadCellsFrom ⟨w.heap.size,0,none⟩ 0 6 #[]) w' = .ok (z1c l) w'∧w'.cell? ⟨w5.heap.size,0,none⟩=some (.int .i64 e.el)∧w'.cell? ⟨w.heap.size+1,5,none⟩=some (.slice v.A3 v.r.secs.length v.c3)) W):=hE fun W h=>⟨z04 (hbl.now h) 6 rfl,(hbe.now h).cell 0,(hbr.now h).cell 5⟩
     obtain ⟨cv,hcv⟩:∃ c,(over.any fun s=>decide (s.el=e.el))=c:=⟨_,rfl⟩
     obtain ⟨ob,hob⟩:∃ c,decide (z0d l.l e.el∈v.r.secs)=c:=⟨_,rfl⟩
     rw[hcv] at HCO;rw[hob] at HOB
     cases cv with
     | true=>
      have HX:=hE (show over=z4x l.l v.r by rw[←hres.out,y9d (Or.inl hcv)]);clear hres hcv hob;refine rgS 13 HSS fun hHeld=>?_
      refine tkM 3 [0,1,2] ?_;refine rd1 3 rfl fun K hK=>?_
      go_simp;go_at_call 94
      refine (HCO.out _ bQ.drew).mono ?_;rintro e7 w7 ⟨rfl,hq7⟩;have hq7':Below wp.heap.size wp w7:=bQ.drew.trans hq7;go_wp2_with fail
      refine hK.out _ _ (HSS.out _ hq7') (fun hHeld=>?_);clear hK K;try simp only[Act.put,lsa,lsz,lss]
      refine tkM 9 [4,5,6,7,8,9,10,11,12] ?_;refine wdn ?_;have hbl:=hbl.now hq7';have hbr:=hbr.now hq7';have hbs:=hbs.now hq7';have hbe:=hbe.now hq7';have hown:=hown.now hq7';have hbw:=z00 hbw hbw.size hq7';have hro2:=hro2.now hq7';clear hHeld HSS HCO HSE HOB;have HO:=hE hown;clear hown hro2;go_wp2_with fail
      go_ret
      exact z0x HX.out rfl HO.out hbw
     | false=>
      cases ob with
      | true=>
       have HX:=hE (show over=z4x l.l v.r by rw[←hres.out,y9d (Or.inr (by simpa using hob))]);clear hres hcv hob;refine rgS 13 HSS fun hHeld=>?_
       refine tkM 3 [0,1,2] ?_;refine rd1 3 rfl fun K hK=>?_
       go_simp;go_at_call 94
       refine (HCO.out _ bQ.drew).mono ?_;rintro e7 w7 ⟨rfl,hq7⟩;have hq7':Below wp.heap.size wp w7:=bQ.drew.trans hq7;go_wp2_with fail
       refine hK.out _ _ (HSS.out _ hq7') (fun hHeld=>?_);clear hK K;try simp only[Act.put,lsa,lsz,lss]
       refine tkM 6 [4,5,6,7,9,10] ?_;refine rd1 8 rfl fun K hK=>?_
       go_simp;go_at_call 18
       refine (HSE.out _ hq7').mono ?_;rintro e8 w8 ⟨rfl,hq8⟩;have hq8':Below wp.heap.size wp w8:=z00 hq7' hq7'.size hq8;go_wp2_with fail
       refine hK.out _ _ (HSS.out _ hq8') (fun hHeld=>?_);clear hK K;try simp only[Act.put,lsa,lsz,lss]
       refine rd1 11 rfl fun K hK=>?_
       go_simp;go_at_call 95
       refine (HOB.out _ hq8').mono ?_;rintro e9 w9 ⟨rfl,hq9⟩;have hq9':Below wp.heap.size wp w9:=z00 hq8' hq8'.size hq9;go_wp2_with fail
       refine hK.out _ _ (HSS.out _ hq9') (fun hHeld=>?_);clear hK K;try simp only[Act.put,lsa,lsz,lss]
       refine tkM 1 [12] ?_;refine wdn ?_;have hbl:=hbl.now hq9';have hbr:=hbr.now hq9';have hbs:=hbs.now hq9';have hbe:=hbe.now hq9';have hown:=hown.now hq9';have hbw:=z00 hbw hbw.size hq9';have hro2:=hro2.now hq9';clear hHeld HSS HCO HSE HOB;have HO:=hE hown;clear hown hro2;go_wp2_with fail
       go_ret
       exact z0x HX.out rfl HO.out hbw
      | false=>
       have HCL:=hE (show ¬((over.any fun s=>decide (s.el=e.el))=true∨z0d l.l e.el∈v.r.secs) by
        rw[hcv];simpa using hob)
       clear hcv hob;refine rgS 13 HSS fun hHeld=>?_
       refine tkM 3 [0,1,2] ?_;refine rd1 3 rfl fun K hK=>?_
       go_simp;go_at_call 94
       refine (HCO.out _ bQ.drew).mono ?_;rintro e7 w7 ⟨rfl,hq7⟩;have hq7':Below wp.heap.size wp w7:=bQ.drew.trans hq7;go_wp2_with fail
       refine hK.out _ _ (HSS.out _ hq7') (fun hHeld=>?_);clear hK K;try simp only[Act.put,lsa,lsz,lss]
       refine tkM 6 [4,5,6,7,9,10] ?_;refine rd1 8 rfl fun K hK=>?_
       go_simp;go_at_call 18
       refine (HSE.out _ hq7').mono ?_;rintro e8 w8 ⟨rfl,hq8⟩;have hq8':Below wp.heap.size wp w8:=z00 hq7' hq7'.size hq8;go_wp2_with fail
       refine hK.out _ _ (HSS.out _ hq8') (fun hHeld=>?_);clear hK K;try simp only[Act.put,lsa,lsz,lss]
       refine rd1 11 rfl fun K hK=>?_
       go_simp;go_at_call 95
       refine (HOB.out _ hq8').mono ?_;rintro e9 w9 ⟨rfl,hq9⟩;have hq9':Below wp.heap.size wp w9:=z00 hq8' hq8'.size hq9;go_wp2_with fail
       refine hK.out _ _ (HSS.out _ hq9') (fun hHeld=>?_);clear hK K;try simp only[Act.put,lsa,lsz,lss]
       refine tkM 1 [12] ?_;refine wdn ?_;have hbl:=hbl.now hq9';have hbr:=hbr.now hq9';have hbs:=hbs.now hq9';have hbe:=hbe.now hq9';have hown:=hown.now hq9';have hbw:=z00 hbw hbw.size hq9';have hro2:=hro2.now hq9';clear hHeld HSS HCO HSE HOB;have HBR:=hE (z8o l e he64 w9 (E.now hbw) (hl.now hbw));unfold lvA at HBR;have ld0:=z04 hbl 6 rfl;have ld1:=z04 hbe 2 rfl;go_wp2_with fail
       refine HBR.out.mono ?_;rintro e10 w10 ⟨Ab,cb,rfl,hob,hq10⟩;clear ld0 ld1 HBR;have hbl:=hbl.now hq10;have hbr:=hbr.now hq10;have hbs:=hbs.now hq10;have hbe:=hbe.now hq10;have hol:=z6t hown;have hown:=hown.now hq10;have hbw:=z00 hbw hbw.size hq10;obtain ⟨bb,hbb⟩:∃ bb,brF l.l e=bb:=⟨_,rfl⟩
       rw[hbb] at hob ⊢
       cases bb with
       | nil=>
        have HX:=hE (show over=z4x l.l v.r by rw[←hres.out,j2v hbb]);have HO:=hE hown;clear hown hro2 hob hbb hres;go_wp2_with fail
        go_ret
        exact z0x HX.out rfl HO.out hbw
       | cons s r=>
        have HGO:=hE (show ovF l.l v.r.secs sg.ovl m (over++[s]) (z7m l.l s)=z4x l.l v.r by rw[←hres.out,j6q HZL.out HCL.out hbb]);have t3:(((s::r).length:Int)==0)=false:=by first | (simp;done) | (simp;omega)
        obtain ⟨hnb,hrb⟩:=hob.rdn;have hrb2:RdS z1h w10 (Lt w10) Ab (s::r):=hrb.more fun b h=>h.2
        obtain ⟨b,off,hAb,lb,ho3,-⟩:=hrb2.elT (show 0 < (s::r).length by simp);rw[List.getElem_cons_zero] at ho3;subst hAb;have lds:=y4l hrb2 (i:=0) (by simp) (s:=s) rfl;rw[Nat.zero_mul,Nat.add_zero] at lds;have hk:(0:Int) < ((s::r).length:Int):=by first | (simp;done) | (simp;omega)
        obtain ⟨nb,hnbe⟩:∃ nb,(s::r).length=nb:=⟨_,rfl⟩
        have hkn:0 < nb:=by rw[←hnbe];simp
        have HNB:=hE hnbe;have hobL:=hE hob;rw[hnbe] at t3 hk ⊢;have lb':b < w10.heap.size:=lb;have hrd:=hE hres;clear hbb hres hnb hrb hnbe hro2 hob lb;have hol9:∀ b',(Value.slice A over.length cap).ownBlock=some b'→b' < w9.heap.size:=hol;have hob2:=hobL.out;have h4:Below w10.heap.size w10 (w10.alloc (.cells #[.int .i64 s.el,.int .i64 s.inn,.int .i64 s.out] 85)):=bQ.alloc nL _;have hbz4:Blk (w10.alloc (.cells #[.int .i64 s.el,.int .i64 s.inn,.int .i64 s.out] 85)) w10.heap.size 85 #[.int .i64 s.el,.int .i64 s.inn,.int .i64 s.out]:=Blk.new _ _ _ _ rfl;have hown4:=hown.now h4;have hob4:=hob2.now h4;have hwb:w.heap.size≤w10.heap.size:=hbw.size;have hws:w.heap.size≤(w10.alloc (.cells #[.int .i64 s.el,.int .i64 s.inn,.int .i64 s.out] 85)).heap.size:=nR hwb h4.size;clear hob2 hol;have HNE:=hE (show ∀ b',(Value.slice (some ⟨b,off,none⟩) (s::r).length cb).ownBlock=some b'→(Value.slice A over.length cap).ownBlock≠some b' from fun b' hb' he=>by
         obtain ⟨xs,h1,_⟩:=hobL.out;have h2:=(World.ownsRow.lt h1 b' hb').1;have h3:=hol9 b' he;omega)
        go_wp2_with (at_builtin;go_loud (refine z0m (c:=z1h) _ rfl _ _ 52 rfl w.heap.size 85 i0 _ 24 Tryz.underlying52 hi hy0 hy1 hy2 rfl (by decide) _ over 0 rfl hown4 [.int .i64 s.el,.int .i64 s.inn,.int .i64 s.out] s ⟨rfl,ho3⟩ (by intro u hu;simp at hu;rcases hu with rfl | rfl | rfl <;> rfl) ⟨w10.heap.size,0,none⟩ 1 rfl (fun j u hj=>by rw[z0g];exact z0f hbz4 j u hj) (by omega) (by omega) hws ?_);intro v' w11 hq11)
        obtain ⟨A11,c11,rfl⟩:=hq11.own.form;have hob11:=hob4.apart hq11 HNE.out;have hown11:=hq11.own.low z4b
        have hbl11:=hq11.frm.blk (hbl.now h4) (by decide);have hbr11:=hq11.frm.blk (hbr.now h4) (by decide);have hbs11:=hq11.frm.blk (hbs.now h4) (by decide);have hbe11:=hq11.frm.blk (hbe.now h4) (by decide);have hbw11:=hq11.frm.keeps nL hws (z00 hbw hbw.size h4);have hln:(over++[s]).length=over.length+1:=by simp
        rw[hln] at hown11 ⊢;clear hq11 hown4 hob4 hbz4 h4 hown hws hwb hbl hbr hbs hbe hbw lds;obtain ⟨on,hon⟩:∃ on,z7m l.l s=on:=⟨_,rfl⟩
        have hon64:∀ e,on=some e→z0p e.el∧z0p e.sd:=fun e he=>y9b hl (hon.trans he)
        have HJV:Hid (z6w (z7m l.l s)=.tuple #[.agg #[.int .i64 (eoF on).el,.int .i64 (eoF on).sd],.bool on.isSome]):=hE (by rw[hon];rfl);have HGO2:=hE (hon▸HGO.out);obtain ⟨q1,hq1⟩:∃ q,on.isSome=q:=⟨_,rfl⟩
        obtain ⟨a1,ha1⟩:∃ q,(eoF on).el=q:=⟨_,rfl⟩
        obtain ⟨a2,ha2⟩:∃ q,(eoF on).sd=q:=⟨_,rfl⟩
        rw[hq1,ha1,ha2] at HJV;have HNX:=hE fun W' (h:Below w11.heap.size w11 W')=>next_any l s W' (hl.now (z00 hbw11 hbw11.size h))
        rw[HJV.out] at HNX;unfold lvA at HNX;have HQ:=hE (aIq hq1 (aIq ha1 ha2));have HSS:Hid (∀ W,Blk W w.heap.size 28 (z1c l)→RdS z1h W (Lt W) (some ⟨b,off,none⟩) (s::r)→(fun w'=>Sem.run Tryz.prog (loadCellsFrom ⟨w.heap.size,0,none⟩ 0 6 #[]) w' = .ok (z1c l) w'∧Sem.run Tryz.prog (loadCellsFrom ⟨b,off,none⟩ 0 3 #[]) w' = .ok #[.int .i64 s.el,.int .i64 s.inn,.int .i64 s.out] w') W):=hE fun W h1 h2=>⟨z04 h1 6 rfl,by have:=y4l h2 (i:=0) (by simp) (s:=s) rfl;rwa [Nat.zero_mul,Nat.add_zero] at this⟩
        have hge:w.heap.size≤w5.heap.size:=hb5.size;clear hq1 ha1 ha2 hon HGO HJV hn3 hr h3 hb3 hb5 hq5;have hno11:RdS z1h w11 (Lt w11) (some ⟨b,off,none⟩) (s::r):=(hob11.rdn (A:=some ⟨b,off,none⟩)).2.more fun b h=>h.2
        refine rgH 10 (S:=(fun w'=>Sem.run Tryz.prog (loadCellsFrom ⟨w.heap.size,0,none⟩ 0 6 #[]) w' = .ok (z1c l) w'∧Sem.run Tryz.prog (loadCellsFrom ⟨b,off,none⟩ 0 3 #[]) w' = .ok #[.int .i64 s.el,.int .i64 s.inn,.int .i64 s.out] w')) (HSS.out _ hbl11.drew (hno11.now bQ.drew)) fun hHeld=>?_
        refine tkM 4 [0,1,2,3] ?_;refine rd1 4 rfl fun K hK=>?_
        go_simp;go_at_call 97
        refine (HNX.out _ bQ.drew).mono ?_;rintro e12 w12 ⟨rfl,hq12⟩;have hq12':Below w11.heap.size w11 w12:=bQ.drew.trans hq12;go_wp2_with fail
        refine hK.out _ _ (HSS.out _ (hbl11.now hq12') (hno11.now hq12')) (fun hHeld=>?_);clear hK K;try simp only[Act.put,lsa,lsz,lss]
        refine tkM 3 [5,6,7] ?_;have hbe12:=hbe11.now hq12';have hob12:=hob11.now hq12';have hown12:=hown11.now hq12';have c0:=hbe12.cell 0;have c1:=hbe12.cell 1;simp only[gqA,gqZ,gqS] at c0 c1;have cf:=hbe12.free;have cl:=hbe12.lt;have hfr:Frm w5.heap.size 90 w12 ((w12.setCell ⟨w5.heap.size,0,none⟩ (.int .i64 a1)).setCell ⟨w5.heap.size,1,none⟩ (.int .i64 a2)):=z0l (w:=w12) [.int .i64 a1,.int .i64 a2] 0 hbe12 nL;have hbeX:Blk ((w12.setCell ⟨w5.heap.size,0,none⟩ (.int .i64 a1)).setCell ⟨w5.heap.size,1,none⟩ (.int .i64 a2)) w5.heap.size 90 #[.int .i64 a1,.int .i64 a2]:=(hbe12.set 0 _).set 1 _;have hobX:=(hob12.set w5.heap.size 0 (.int .i64 a1) 90 _ hbe12 (by decide) nZ).set w5.heap.size 1 (.int .i64 a2) 90 _ (hbe12.set 0 _) (by decide) nZ;have hownX:=(hown12.set w5.heap.size 0 (.int .i64 a1) 90 _ hbe12 (by decide) nZ).set w5.heap.size 1 (.int .i64 a2) 90 _ (hbe12.set 0 _) (by decide) nZ;have hblX:=hfr.blk (hbl11.now hq12') (by decide);have hbrX:=hfr.blk (hbr11.now hq12') (by decide);have hbsX:=hfr.blk (hbs11.now hq12') (by decide);have hbw12:=z00 hbw11 hbw11.size hq12';have hbwX:=hfr.keeps hge hbw12.size hbw12;have hnoX:RdS z1h ((w12.setCell ⟨w5.heap.size,0,none⟩ (.int .i64 a1)).setCell ⟨w5.heap.size,1,none⟩ (.int .i64 a2)) (Lt ((w12.setCell ⟨w5.heap.size,0,none⟩ (.int .i64 a1)).setCell ⟨w5.heap.size,1,none⟩ (.int .i64 a2))) (some ⟨b,off,none⟩) (s::r):=(z09.rdn (A:=some ⟨b,off,none⟩) hobX).2.more fun b h=>h.2
        have HXX:=hE (aIq hblX (aIq hbrX (aIq hbsX (aIq hbeX (aIq hownX (aIq hbwX hnoX))))));clear hblX hbrX hbsX hbeX hownX hbwX hnoX hobX hfr;refine rd1 8 rfl fun K hK=>?_
        go_simp;refine hK.out _ _ (HSS.out _ HXX.out.1 HXX.out.2.2.2.2.2.2) (fun hHeld=>?_);clear hK K;try simp only[Act.put,lsa,lsz,lss]
        refine tkM 1 [9] ?_;refine wdn ?_;clear hHeld HSS HNX;go_wp2_with fail
        go_roundw
        case rel=>
         obtain ⟨x1,x2,x3,x4,x5,x6,-⟩:=HXX.out;obtain ⟨k1,k2,k3⟩:=HQ.out;exact ⟨m,over++[s],on,by rw[k1],⟨by rw[hln];omega,HGO2.out,x5,x1,x2,x3,by rw[k2,k3];exact x4,x6,hon64⟩⟩
        case measure=>
         show 12 - (over.length+1) < 12 - over.length;omega
end Go.Proofs.YtpenlfedkacglaaGreatDoor
