import Derived.Test.YtpenlfedkacglaaGreatDoorL19
set_option maxRecDepth 100000
set_option maxHeartbeats 40000000
set_option linter.all false
namespace Go.Proofs.YtpenlfedkacglaaGreatDoor
open Go.RowKit
attribute [local go_sem] z05 z07 z01 z02
attribute [-go_sem] run_equalIn_agg
attribute [-go_sem] loadCellsFrom
theorem j7p (w:World):TvR w ⟨zT,none,none,none,0,0,0⟩:=⟨RdS.nil _ _ _ _,RdS.nil _ _ _ _,RdS.nil _ _ _ _,⟨nZ,nZ⟩,⟨nZ,nZ⟩,⟨nZ,nZ⟩,by constructor <;> simp[zT],by constructor <;> simp[zT]⟩
theorem y2x (v:LV) (w:World) (E:y6n w) (hr:LvR w v) (hm3:v.l.jts.length≤140737488351232):Calls Tryz.prog 5 #[lvA v] w fun e w'=>∃ tv:z1w,e=.returned (.tuple #[.agg (z0t tv),.int .i64 (x0b v.l).2])∧tv.t=(x0b v.l).1∧TvR w' tv∧Below w.heap.size w w':=by
 obtain ⟨iR,hiR,hR0,hR1,hR2⟩:=info_parts y0m;obtain ⟨iI,hiI,hI0,hI1,hI2⟩:=info_parts z3f;obtain ⟨W2,hW2⟩:∃ W,W=(w.alloc (.cells (z1c v) 28)).alloc (.cells #[.slice none 0 0,.slice none 0 0,.slice none 0 0,.int .i64 0,.int .i64 0] 33):=⟨_,rfl⟩
 have hb2:Below w.heap.size w W2:=by rw[hW2];exact (bQ.alloc nL _).alloc (by simp) _
 have hx2:Blk W2 w.heap.size 28 (z1c v):=by rw[hW2];exact (Blk.new _ _ _ _ rfl).alloc _
 have hz2:Blk W2 (w.heap.size+1) 33 #[.slice none 0 0,.slice none 0 0,.slice none 0 0,.int .i64 0,.int .i64 0]:=by rw[hW2];exact Blk.new _ _ _ _ (by simp)
 have HAL:=hE (j0n v W2 (E.now hb2) (hr.now hb2) hm3);have ld0:=z04 hx2 6 rfl;have hs2:w.heap.size+1 < W2.heap.size:=hz2.lt;unfold lvA at HAL ⊢;go_enter Tryz.func5,Tryz.ntmps5
 go_upto_region 1 with (fail)
 rw[←hW2];clear hW2;go_wp2_with fail
 refine HAL.out.mono ?_;rintro en w3 hA;rcases hA with ⟨hc,rfl,hq⟩ | ⟨hc,h48,rfl,hq⟩ | ⟨hc,h48,rs0,rfl,⟨B0,ho⟩,hq⟩
 ·obtain ⟨ck,hck⟩:∃ c,z8p v.l=c:=⟨_,rfl⟩
  have HB:=hE (show x0b v.l=(zT,ck) by unfold x0b;rw[if_neg hc,hck]);have t1:(ck != 0)=true:=by rw[←hck];simp[hc]
  rw[hck];clear hc hck;have hz3:=hz2.now hq;have hb3:=z00 hb2 hb2.size hq;obtain ⟨hp,hf⟩:=z0q #[.slice none 0 0,.slice none 0 0,.slice none 0 0,.int .i64 0,.int .i64 0] hz3;have HX:=hE (aIq hp (hf.keeps (show w.heap.size≤w.heap.size+1 by omega) hb3.size hb3));have HZ:=hE hz3;clear hp hf hz3 hb3 hz2 hx2 hb2 ld0 HAL hq;go_wp2_with ((refine wpList_store_row rfl _ _ _ rfl (w.heap.size+1) #[.slice none 0 0,.slice none 0 0,.slice none 0 0,.int .i64 0,.int .i64 0] rfl rfl 33 #[.slice none 0 0,.slice none 0 0,.slice none 0 0,.int .i64 0,.int .i64 0] HZ.out (by kernel_rfl) rfl (by simp[Value.oneCell']) ?_))
  have ldp:=z04 HX.out.1 5 rfl;have pl:=HX.out.1.lt;refine bodyPost_ret (v:=.tuple #[.agg #[.slice none 0 0,.slice none 0 0,.slice none 0 0,.int .i64 0,.int .i64 0],.int .i64 ck]) (by simp[results,Tryz.results5,go_sem,ldp,pl]) rfl ?_;exact ⟨⟨zT,none,none,none,0,0,0⟩,by rw[HB.out];rfl,by rw[HB.out],j7p _,HX.out.2⟩
 ·have HB:=hE (show x0b v.l=(zT,2) by unfold x0b;rw[if_pos hc,if_neg (by omega)]);clear hc h48;have hz3:=hz2.now hq;have hb3:=z00 hb2 hb2.size hq;obtain ⟨hp,hf⟩:=z0q #[.slice none 0 0,.slice none 0 0,.slice none 0 0,.int .i64 0,.int .i64 0] hz3;have HX:=hE (aIq hp (hf.keeps (show w.heap.size≤w.heap.size+1 by omega) hb3.size hb3));have HZ:=hE hz3;clear hp hf hz3 hb3 hz2 hx2 hb2 ld0 HAL hq;go_wp2_with ((refine wpList_store_row rfl _ _ _ rfl (w.heap.size+1) #[.slice none 0 0,.slice none 0 0,.slice none 0 0,.int .i64 0,.int .i64 0] rfl rfl 33 #[.slice none 0 0,.slice none 0 0,.slice none 0 0,.int .i64 0,.int .i64 0] HZ.out (by kernel_rfl) rfl (by simp[Value.oneCell']) ?_))
  have ldp:=z04 HX.out.1 5 rfl;have pl:=HX.out.1.lt;refine bodyPost_ret (v:=.tuple #[.agg #[.slice none 0 0,.slice none 0 0,.slice none 0 0,.int .i64 0,.int .i64 0],.int .i64 2]) (by simp[results,Tryz.results5,go_sem,ldp,pl]) rfl ?_;exact ⟨⟨zT,none,none,none,0,0,0⟩,by rw[HB.out];rfl,by rw[HB.out],j7p _,HX.out.2⟩
 ·have hx3:=hx2.now hq;have hz3:=hz2.now hq;have hb3:=z00 hb2 hb2.size hq;have hlt3:w.heap.size+1 < w3.heap.size:=nT hs2 hq.size;have HBL:=hE (show x0b v.l=(z5i v.l,0) by unfold x0b;rw[if_pos hc,if_pos h48]);have hK:=j7x hc;have HSH:=hE (show ∀ (k:Nat) (h:k < (y1g v.l).length),ShR v.l (y1g v.l)[k] from fun k h=>j03 hK (uE h));have hrd0:∃ A c,rs0=.slice A (y1g v.l).length c∧RdS cR w3 (Lt w3) A (y1g v.l):=by
   obtain ⟨A,c,h1,-,h2⟩:=ho.y9l;exact ⟨A,c,h1,h2⟩
  obtain ⟨Ars,cs,rfl,hrs⟩:=hrd0;have HTF:=hE (show (z5i v.l).rts=z3j v.l (y1g v.l) (y1g v.l).length∧(z5i v.l).pts=z1m v.l∧(z5i v.l).homes=(z1m v.l).map (z0d v.l)∧(z5i v.l).nsec=v.l.secs.length∧(z5i v.l).nsig=v.l.sgs.length from ⟨by unfold z3j;rw[List.take_length];rfl,rfl,rfl,rfl,rfl⟩);generalize y1g v.l=rs at *;have x1:=hx3.cell 1;have x4:=hx3.cell 4;have lx:=hx3.lt;simp only[gqA,gqZ,gqS] at x1 x4;have hns:=hK.ns;have hng:=hK.ng;have hnl:=hK.nl;obtain ⟨W4,hW4⟩:∃ W,W=w3.alloc (.cells #[.slice none 0 0,.slice none 0 0,.slice none 0 0,.int .i64 (v.l.secs.length:Int),.int .i64 (v.l.sgs.length:Int)] 33):=⟨_,rfl⟩
  have hJ0:BdJ v w w3 rs 0 (.slice none 0 0) W4:=by
   rw[hW4];have h4:Below w3.heap.size w3 (w3.alloc (.cells #[.slice none 0 0,.slice none 0 0,.slice none 0 0,.int .i64 (v.l.secs.length:Int),.int .i64 (v.l.sgs.length:Int)] 33)):=bQ.alloc nL _;exact ⟨hx3.now h4,hz3.now h4,Blk.new _ _ _ _ rfl,⟨[],World.ownsRow_nil _ _ _ _,rfl,h4.size⟩,h4,z00 hb3 hb3.size h4,hlt3,by simp⟩
  have HJ0:=hE hJ0;have HRS:=hE hrs;have hl48:rs.length≤48:=h48;clear hJ0 hrs ho HAL ld0 hq hx2 hz2 hb2 hx3 hz3 hb3 h48;go_upto_region 5 with (fail)
  rw[←hW4];clear hW4 x1 x4 lx;go_wp2_with fail
  go_loopw [29] (fun n wr=>∃ (k:Nat) (x:Value),n=.int .i64 k∧k≤rs.length∧BdJ v w w3 rs k x wr) (fun n _=>rs.length - (intOf n).toNat)
  case atStart=>exact ⟨0,_,rfl,nZ,HJ0.out⟩
  case round=>
   obtain ⟨k,x,rfl,hkl,hJ⟩:=hrel;clear HJ0;by_cases hlt:k < rs.length;case pos=>
    have hki:(k:Int) < (rs.length:Int):=by omega
    have hk1:k+1≤rs.length:=hlt;obtain ⟨b,off,rv,hA,lb,hre,hrv,lds⟩:=z6j (HRS.out.now hJ.b3) hlt;subst hA;have lb':b < wr.heap.size:=lb;have hsh:=HSH.out k hlt;rw[←hre] at hsh;obtain ⟨W5,hW5⟩:∃ W,W=wr.alloc (.cells (z0e rv) 56):=⟨_,rfl⟩
    have hq5:Below wr.heap.size wr W5:=by rw[hW5];exact bQ.alloc nL _
    have hb5:Blk W5 wr.heap.size 56 (z0e rv):=by rw[hW5];exact Blk.new _ _ _ _ rfl
    have hJ5:=hJ.now hq5;have hrv5:=hrv.now hq5;have HRE:=hE (fun _:Unit=>(⟨hlt,hre⟩:∃ h:k < rs.length,rv.r=rs[k]));have hxb:∀ c,x.ownBlock=some c→c≠wr.heap.size:=fun c hc=>by have:=(z2l.lt hJ.own c hc).2;omega
    have hgl:=hJ.gl;obtain ⟨Ax,cx,hxe⟩:=z2l.form hJ.own;have hrl:=z7s (l:=v.l) hkl;rw[hrl] at hxe;subst hxe;clear hJ hrv hq5 hre hlt lb;go_upto_region 8 with (fail)
    rw[←hW5];clear hW5 lds lb';rename_i Q' K hK';have TAIL:∀ (x':Value) (w9:World) (v8 v30 v31 v32 v33 v34 v35 v36 v37 v38 v39 v40 v41 v42 v43:Value),BdJ v w w3 rs (k+1) x' w9→K { tmps:=#[.agg (z1c v),.pointer (some ⟨w.heap.size,0,none⟩),.pointer (some ⟨w.heap.size+1,0,none⟩),.int .i64 0,.slice (some ⟨b,off,none⟩) rs.length cs,.int .i64 0,.pointer (some ⟨w3.heap.size,0,none⟩),undef,v8,undef,undef,.tuple #[.slice (some ⟨b,off,none⟩) rs.length cs,.int .i64 0],.agg (z1c v),.tuple #[.slice (some ⟨b,off,none⟩) rs.length cs,.int .i64 0],.slice (some ⟨b,off,none⟩) rs.length cs,.int .i64 0,.int .i64 0,.bool false,undef,undef,.pointer (some ⟨w.heap.size,1,none⟩),.slice v.A1 v.l.secs.length v.c1,.int .i64 (v.l.secs.length:Int),.pointer (some ⟨w.heap.size,4,none⟩),.slice v.A4 v.l.sgs.length v.c4,.int .i64 (v.l.sgs.length:Int),.agg #[.slice none 0 0,.slice none 0 0,.slice none 0 0,.int .i64 (v.l.secs.length:Int),.int .i64 (v.l.sgs.length:Int)],.slice (some ⟨b,off,none⟩) rs.length cs,.int .i64 (rs.length:Int),.int .i64 (k:Int),v30,v31,v32,v33,v34,v35,v36,v37,v38,v39,v40,v41,v42,v43,undef,undef,undef,undef,undef,undef,undef,undef,undef,undef,undef,undef,undef,undef,undef,undef,undef,undef,undef,undef,undef,undef,undef],defers:=[] } w9:=by
     intro x' w9 v8 v30 v31 v32 v33 v34 v35 v36 v37 v38 v39 v40 v41 v42 v43 hJ9;refine hK' _ _ ?_;go_wp2_with fail
     go_roundw
     case rel=>exact ⟨k+1,x',by go_num,hk1,hJ9⟩
     case measure=>simp[intOf];omega
    have hlow5:=hJ5.own;have x05:=hJ5.bt.cell 0;have lt5:=hJ5.bt.lt;simp only[gqA,gqZ,gqS] at x05;have HFO:=hE fun W (h:Below W5.heap.size W5 W)=>x3e v rv W (E.now (z00 hJ5.bel hJ5.bel.size h)).toEnvR hK (hr.now (z00 hJ5.bel hJ5.bel.size h)) (hrv5.now h) hsh.ext hsh.s hsh.n8 hsh.n9
    unfold lvA at HFO;have HSS:Hid (∀ W,Below W5.heap.size W5 W→(fun w'=>Sem.run Tryz.prog (loadCellsFrom ⟨w.heap.size,0,none⟩ 0 6 #[]) w' = .ok (z1c v) w'∧Sem.run Tryz.prog (loadCellsFrom ⟨wr.heap.size,0,none⟩ 0 14 #[]) w' = .ok (z0e rv) w') W):=hE fun W h=>⟨z04 (hJ5.bl.now h) 6 rfl,z04 (hb5.now h) 14 rfl⟩
    have hfo:=z9g (l:=v.l) rv.r;have ho1:=y0s v.l (z4x v.l rv.r);have ho2:=y0p v.l (z4x v.l rv.r);refine rgS 11 HSS fun hHeld=>?_
    refine tkM 4 [0,2,3,4] ?_;refine rd2 1 5 rfl rfl (fun K hK=>?_) fun K hK=>?_
    focus
     go_simp;refine hK.out _ _ (HSS.out _ bQ.drew) (fun hHeld=>?_);clear hK K;try simp only[Act.put,lsa,lsz,lss]
     refine rd1 5 rfl fun K hK=>?_
     go_simp;go_at_call 16
     refine (HFO.out _ (bQ.drew)).mono ?_;rintro en w6 ⟨rv2,rfl,hr2,hrv2,hq6⟩;have hq56:Below W5.heap.size W5 w6:=bQ.drew.trans hq6;have HFK:=hE (y56 v rv2 w6 (E.now (z00 hJ5.bel hJ5.bel.size hq56)) (hr.now (z00 hJ5.bel hJ5.bel.size hq56)) (hrv2.more fun b hb=>hb.1) (by rw[hr2];show rv.r.path.length≤1000;have:=hsh.n1;omega) (by rw[hr2];exact hsh.s.n2) (by rw[hr2];exact hsh.s.n3) (by rw[hr2];have:=hfo.2;omega) (by rw[hr2];show (z1a v.l (z4x v.l rv.r)).length≤30000;have:=hfo.2;have h5:(z1z v.l rv.r).over=z4x v.l rv.r:=rfl;rw[h5] at this;omega) (by rw[hr2];show (z0y v.l (z4x v.l rv.r)).length≤30000;have:=hfo.2;have h5:(z1z v.l rv.r).over=z4x v.l rv.r:=rfl;rw[h5] at this;omega));unfold lvA at HFK;have HR2:=hE hr2;clear hr2;go_wp2_with fail
     refine hK.out _ _ (HSS.out _ hq56) (fun hHeld=>?_);clear hK K;try simp only[Act.put,lsa,lsz,lss]
     refine rd1 6 rfl fun K hK=>?_
     go_simp;go_at_call 15
     refine HFK.out.mono ?_;rintro en w7 ⟨rv3,rfl,hr3,hrv3,hq7⟩;have hq57:Below W5.heap.size W5 w7:=z00 hq56 hq56.size hq7;have HR3:=hE hr3;clear hr3;go_wp2_with fail
     refine hK.out _ _ (HSS.out _ hq57) (fun hHeld=>?_);clear hK K;try simp only[Act.put,lsa,lsz,lss]
     refine rd1 7 rfl fun K hK=>?_
     go_simp;refine hK.out _ _ (HSS.out _ (hq57.alloc hq57.size _)) (fun hHeld=>?_);clear hK K;try simp only[Act.put,lsa,lsz,lss]
     have h78:Below w7.heap.size w7 (w7.alloc (.cells (z0e rv3) 56)):=bQ.alloc nL _;have h58:Below W5.heap.size W5 (w7.alloc (.cells (z0e rv3) 56)):=z00 hq57 hq57.size h78;have hJ8:=hJ5.now h58;have hbx8:=hb5.now h58;have hbz8:Blk (w7.alloc (.cells (z0e rv3) 56)) w7.heap.size 56 (z0e rv3):=Blk.new _ _ _ _ rfl;have hsz6:w3.heap.size < w6.heap.size:=nT hJ5.gl hq56.size;have hy8:cR.rd (w7.alloc (.cells (z0e rv3) 56)) (z9b w3.heap.size (w7.alloc (.cells (z0e rv3) 56))) [.string (bs rv3.r.name),.int .i64 rv3.r.ent,.int .i64 rv3.r.ext,.slice rv3.A1 rv3.r.path.length rv3.c1,.slice rv3.A2 rv3.r.pts.length rv3.c2,.slice rv3.A3 rv3.r.secs.length rv3.c3,.int .i64 rv3.r.app,.int .i64 rv3.r.len,.slice rv3.A4 rv3.r.over.length rv3.c4,.slice rv3.A5 rv3.r.opts.length rv3.c5,.slice rv3.A6 rv3.r.osecs.length rv3.c6,.slice rv3.A7 rv3.r.flk.length rv3.c7,.slice rv3.A8 rv3.r.grd.length rv3.c8,.slice rv3.A9 rv3.r.gap.length rv3.c9] rv3.r:=⟨rv3,rfl,rfl,(hrv3.keep fun p hp=>h78.cell hp.2.1).more fun c hc=>⟨nT hsz6 hc.1,nT hc.2.1 h78.size,fun cs fr he=>hc.2.2 cs fr (by rw[←h78.block c hc.2.1];exact he)⟩⟩
     have hln:(z3j v.l rs k).length≤100000:=by rw[hrl];omega
     have HJ8:=hE (aIq hJ8 hbx8);have hlow8:z2l cR (w7.alloc (.cells (z0e rv3) 56)) w3.heap.size (z9b w3.heap.size (w7.alloc (.cells (z0e rv3) 56))) 56 (.slice Ax k cx) (z3j v.l rs k):=hJ8.own;have hap8:=y6p.apart hJ8.own;have HOR:=hE (z4m _ _ hy8);clear hJ8 hbx8;refine rd1 8 rfl fun K hK=>?_
     refine z0b (c:=cR) rfl _ _ 30 rfl w3.heap.size 56 iR _ 264 Tryz.underlying30 hiR hR0 hR1 hR2 rfl (by decide) (z9b w3.heap.size (w7.alloc (.cells (z0e rv3) 56))) (.slice Ax k cx) (z3j v.l rs k) rfl hlow8 hap8 [.string (bs rv3.r.name),.int .i64 rv3.r.ent,.int .i64 rv3.r.ext,.slice rv3.A1 rv3.r.path.length rv3.c1,.slice rv3.A2 rv3.r.pts.length rv3.c2,.slice rv3.A3 rv3.r.secs.length rv3.c3,.int .i64 rv3.r.app,.int .i64 rv3.r.len,.slice rv3.A4 rv3.r.over.length rv3.c4,.slice rv3.A5 rv3.r.opts.length rv3.c5,.slice rv3.A6 rv3.r.osecs.length rv3.c6,.slice rv3.A7 rv3.r.flk.length rv3.c7,.slice rv3.A8 rv3.r.grd.length rv3.c8,.slice rv3.A9 rv3.r.gap.length rv3.c9] rv3.r hy8 HOR.out ⟨w7.heap.size,0,none⟩ 1 rfl (fun j u hj=>by (rw[z0g];exact z0f hbz8 j u hj)) hln (by omega) ?_;intro v' w10 hl10 hf10 hg10;have hbl10:=hf10.blk HJ8.out.1.bl (by decide);have hbx10:Blk w10 wr.heap.size 56 (z0e rv):=(hg10.block _ (z0j HJ8.out.2) (fun he=>hxb _ he.symm rfl)).trans HJ8.out.2;refine hK.out _ _ ⟨z04 hbl10 6 rfl,z04 hbx10 14 rfl⟩ (fun hHeld=>?_);clear hK K;try simp only[Act.put,lsa,lsz,lss]
     refine tkM 1 [9] ?_;have hbt10:=hf10.blk HJ8.out.1.bt (by decide);have z0:=hbt10.cell 0;have zf:=hbt10.free;have zl:=hbt10.lt;simp only[gqA,gqZ,gqS] at z0;obtain ⟨hlk,hre⟩:=HRE.out ();have hJX:=HJ8.out.1.put hlk (r:=rv3.r) (by rw[HR3.out,HR2.out,hre]) hl10 hf10;have HJX:=hE hJX;have HBX:=hE (show Blk (w10.setCell ⟨w3.heap.size,0,none⟩ v') wr.heap.size 56 (z0e rv) from hbx10.far (show wr.heap.size≠w3.heap.size by have:=hgl;omega) _);obtain ⟨Ay,cy,hye⟩:=z2l.form hl10;have hyl:(z3j v.l rs k++[rv3.r]).length=k+1:=by rw[qL,hrl];rfl
     rw[hyl] at hye;subst hye;clear hJX hl10 hg10;refine rd1 10 rfl fun K hK=>?_
     go_simp;refine hK.out _ _ ⟨z04 HJX.out.bl 6 rfl,z04 HBX.out 14 rfl⟩ (fun hHeld=>?_);clear hK K;try simp only[Act.put,lsa,lsz,lss]
     refine wdn ?_;exact TAIL _ _ _ _ _ _ _ _ _ _ _ _ _ _ _ _ _ HJX.out
    focus
     go_simp;go_at_call 16
     refine (HFO.out _ (bQ.drew)).mono ?_;rintro en w6 ⟨rv2,rfl,hr2,hrv2,hq6⟩;have hq56:Below W5.heap.size W5 w6:=bQ.drew.trans hq6;have HFK:=hE (y56 v rv2 w6 (E.now (z00 hJ5.bel hJ5.bel.size hq56)) (hr.now (z00 hJ5.bel hJ5.bel.size hq56)) (hrv2.more fun b hb=>hb.1) (by rw[hr2];show rv.r.path.length≤1000;have:=hsh.n1;omega) (by rw[hr2];exact hsh.s.n2) (by rw[hr2];exact hsh.s.n3) (by rw[hr2];have:=hfo.2;omega) (by rw[hr2];show (z1a v.l (z4x v.l rv.r)).length≤30000;have:=hfo.2;have h5:(z1z v.l rv.r).over=z4x v.l rv.r:=rfl;rw[h5] at this;omega) (by rw[hr2];show (z0y v.l (z4x v.l rv.r)).length≤30000;have:=hfo.2;have h5:(z1z v.l rv.r).over=z4x v.l rv.r:=rfl;rw[h5] at this;omega));unfold lvA at HFK;have HR2:=hE hr2;clear hr2;go_wp2_with fail
     refine hK.out _ _ (HSS.out _ hq56) (fun hHeld=>?_);clear hK K;try simp only[Act.put,lsa,lsz,lss]
     have x06:=(hq56.cell (p:=⟨w3.heap.size,0,none⟩) lt5).trans x05;refine rd2 1 6 rfl rfl (fun K hK=>?_) fun K hK=>?_
     focus
      go_simp;refine hK.out _ _ (HSS.out _ hq56) (fun hHeld=>?_);clear hK K;try simp only[Act.put,lsa,lsz,lss]
      clear x06;refine rd1 6 rfl fun K hK=>?_
      go_simp;go_at_call 15
      refine HFK.out.mono ?_;rintro en w7 ⟨rv3,rfl,hr3,hrv3,hq7⟩;have hq57:Below W5.heap.size W5 w7:=z00 hq56 hq56.size hq7;have HR3:=hE hr3;clear hr3;go_wp2_with fail
      refine hK.out _ _ (HSS.out _ hq57) (fun hHeld=>?_);clear hK K;try simp only[Act.put,lsa,lsz,lss]
      refine rd1 7 rfl fun K hK=>?_
      go_simp;refine hK.out _ _ (HSS.out _ (hq57.alloc hq57.size _)) (fun hHeld=>?_);clear hK K;try simp only[Act.put,lsa,lsz,lss]
      have h78:Below w7.heap.size w7 (w7.alloc (.cells (z0e rv3) 56)):=bQ.alloc nL _;have h58:Below W5.heap.size W5 (w7.alloc (.cells (z0e rv3) 56)):=z00 hq57 hq57.size h78;have hJ8:=hJ5.now h58;have hbx8:=hb5.now h58;have hbz8:Blk (w7.alloc (.cells (z0e rv3) 56)) w7.heap.size 56 (z0e rv3):=Blk.new _ _ _ _ rfl;have hsz6:w3.heap.size < w6.heap.size:=nT hJ5.gl hq56.size;have hy8:cR.rd (w7.alloc (.cells (z0e rv3) 56)) (z9b w3.heap.size (w7.alloc (.cells (z0e rv3) 56))) [.string (bs rv3.r.name),.int .i64 rv3.r.ent,.int .i64 rv3.r.ext,.slice rv3.A1 rv3.r.path.length rv3.c1,.slice rv3.A2 rv3.r.pts.length rv3.c2,.slice rv3.A3 rv3.r.secs.length rv3.c3,.int .i64 rv3.r.app,.int .i64 rv3.r.len,.slice rv3.A4 rv3.r.over.length rv3.c4,.slice rv3.A5 rv3.r.opts.length rv3.c5,.slice rv3.A6 rv3.r.osecs.length rv3.c6,.slice rv3.A7 rv3.r.flk.length rv3.c7,.slice rv3.A8 rv3.r.grd.length rv3.c8,.slice rv3.A9 rv3.r.gap.length rv3.c9] rv3.r:=⟨rv3,rfl,rfl,(hrv3.keep fun p hp=>h78.cell hp.2.1).more fun c hc=>⟨nT hsz6 hc.1,nT hc.2.1 h78.size,fun cs fr he=>hc.2.2 cs fr (by rw[←h78.block c hc.2.1];exact he)⟩⟩
      have hln:(z3j v.l rs k).length≤100000:=by rw[hrl];omega
      have HJ8:=hE (aIq hJ8 hbx8);have hlow8:z2l cR (w7.alloc (.cells (z0e rv3) 56)) w3.heap.size (z9b w3.heap.size (w7.alloc (.cells (z0e rv3) 56))) 56 (.slice Ax k cx) (z3j v.l rs k):=hJ8.own;have hap8:=y6p.apart hJ8.own;have HOR:=hE (z4m _ _ hy8);clear hJ8 hbx8;refine rd1 8 rfl fun K hK=>?_
      refine z0b (c:=cR) rfl _ _ 30 rfl w3.heap.size 56 iR _ 264 Tryz.underlying30 hiR hR0 hR1 hR2 rfl (by decide) (z9b w3.heap.size (w7.alloc (.cells (z0e rv3) 56))) (.slice Ax k cx) (z3j v.l rs k) rfl hlow8 hap8 [.string (bs rv3.r.name),.int .i64 rv3.r.ent,.int .i64 rv3.r.ext,.slice rv3.A1 rv3.r.path.length rv3.c1,.slice rv3.A2 rv3.r.pts.length rv3.c2,.slice rv3.A3 rv3.r.secs.length rv3.c3,.int .i64 rv3.r.app,.int .i64 rv3.r.len,.slice rv3.A4 rv3.r.over.length rv3.c4,.slice rv3.A5 rv3.r.opts.length rv3.c5,.slice rv3.A6 rv3.r.osecs.length rv3.c6,.slice rv3.A7 rv3.r.flk.length rv3.c7,.slice rv3.A8 rv3.r.grd.length rv3.c8,.slice rv3.A9 rv3.r.gap.length rv3.c9] rv3.r hy8 HOR.out ⟨w7.heap.size,0,none⟩ 1 rfl (fun j u hj=>by (rw[z0g];exact z0f hbz8 j u hj)) hln (by omega) ?_;intro v' w10 hl10 hf10 hg10;have hbl10:=hf10.blk HJ8.out.1.bl (by decide);have hbx10:Blk w10 wr.heap.size 56 (z0e rv):=(hg10.block _ (z0j HJ8.out.2) (fun he=>hxb _ he.symm rfl)).trans HJ8.out.2;refine hK.out _ _ ⟨z04 hbl10 6 rfl,z04 hbx10 14 rfl⟩ (fun hHeld=>?_);clear hK K;try simp only[Act.put,lsa,lsz,lss]
      refine tkM 1 [9] ?_;have hbt10:=hf10.blk HJ8.out.1.bt (by decide);have z0:=hbt10.cell 0;have zf:=hbt10.free;have zl:=hbt10.lt;simp only[gqA,gqZ,gqS] at z0;obtain ⟨hlk,hre⟩:=HRE.out ();have hJX:=HJ8.out.1.put hlk (r:=rv3.r) (by rw[HR3.out,HR2.out,hre]) hl10 hf10;have HJX:=hE hJX;have HBX:=hE (show Blk (w10.setCell ⟨w3.heap.size,0,none⟩ v') wr.heap.size 56 (z0e rv) from hbx10.far (show wr.heap.size≠w3.heap.size by have:=hgl;omega) _);obtain ⟨Ay,cy,hye⟩:=z2l.form hl10;have hyl:(z3j v.l rs k++[rv3.r]).length=k+1:=by rw[qL,hrl];rfl
      rw[hyl] at hye;subst hye;clear hJX hl10 hg10;refine rd1 10 rfl fun K hK=>?_
      go_simp;refine hK.out _ _ ⟨z04 HJX.out.bl 6 rfl,z04 HBX.out 14 rfl⟩ (fun hHeld=>?_);clear hK K;try simp only[Act.put,lsa,lsz,lss]
      refine wdn ?_;exact TAIL _ _ _ _ _ _ _ _ _ _ _ _ _ _ _ _ _ HJX.out
     focus
      go_simp;go_at_call 15
      refine HFK.out.mono ?_;rintro en w7 ⟨rv3,rfl,hr3,hrv3,hq7⟩;have hq57:Below W5.heap.size W5 w7:=z00 hq56 hq56.size hq7;have HR3:=hE hr3;clear hr3;go_wp2_with fail
      refine hK.out _ _ (HSS.out _ hq57) (fun hHeld=>?_);clear hK K;try simp only[Act.put,lsa,lsz,lss]
      clear x06;have x07:=(hq57.cell (p:=⟨w3.heap.size,0,none⟩) lt5).trans x05;refine rd2 1 7 rfl rfl (fun K hK=>?_) fun K hK=>?_
      focus
       go_simp;refine hK.out _ _ (HSS.out _ hq57) (fun hHeld=>?_);clear hK K;try simp only[Act.put,lsa,lsz,lss]
       clear x07;refine rd1 7 rfl fun K hK=>?_
       go_simp;refine hK.out _ _ (HSS.out _ (hq57.alloc hq57.size _)) (fun hHeld=>?_);clear hK K;try simp only[Act.put,lsa,lsz,lss]
       have h78:Below w7.heap.size w7 (w7.alloc (.cells (z0e rv3) 56)):=bQ.alloc nL _;have h58:Below W5.heap.size W5 (w7.alloc (.cells (z0e rv3) 56)):=z00 hq57 hq57.size h78;have hJ8:=hJ5.now h58;have hbx8:=hb5.now h58;have hbz8:Blk (w7.alloc (.cells (z0e rv3) 56)) w7.heap.size 56 (z0e rv3):=Blk.new _ _ _ _ rfl;have hsz6:w3.heap.size < w6.heap.size:=nT hJ5.gl hq56.size;have hy8:cR.rd (w7.alloc (.cells (z0e rv3) 56)) (z9b w3.heap.size (w7.alloc (.cells (z0e rv3) 56))) [.string (bs rv3.r.name),.int .i64 rv3.r.ent,.int .i64 rv3.r.ext,.slice rv3.A1 rv3.r.path.length rv3.c1,.slice rv3.A2 rv3.r.pts.length rv3.c2,.slice rv3.A3 rv3.r.secs.length rv3.c3,.int .i64 rv3.r.app,.int .i64 rv3.r.len,.slice rv3.A4 rv3.r.over.length rv3.c4,.slice rv3.A5 rv3.r.opts.length rv3.c5,.slice rv3.A6 rv3.r.osecs.length rv3.c6,.slice rv3.A7 rv3.r.flk.length rv3.c7,.slice rv3.A8 rv3.r.grd.length rv3.c8,.slice rv3.A9 rv3.r.gap.length rv3.c9] rv3.r:=⟨rv3,rfl,rfl,(hrv3.keep fun p hp=>h78.cell hp.2.1).more fun c hc=>⟨nT hsz6 hc.1,nT hc.2.1 h78.size,fun cs fr he=>hc.2.2 cs fr (by rw[←h78.block c hc.2.1];exact he)⟩⟩
       have hln:(z3j v.l rs k).length≤100000:=by rw[hrl];omega
       have HJ8:=hE (aIq hJ8 hbx8);have hlow8:z2l cR (w7.alloc (.cells (z0e rv3) 56)) w3.heap.size (z9b w3.heap.size (w7.alloc (.cells (z0e rv3) 56))) 56 (.slice Ax k cx) (z3j v.l rs k):=hJ8.own;have hap8:=y6p.apart hJ8.own;have HOR:=hE (z4m _ _ hy8);clear hJ8 hbx8;refine rd1 8 rfl fun K hK=>?_
       refine z0b (c:=cR) rfl _ _ 30 rfl w3.heap.size 56 iR _ 264 Tryz.underlying30 hiR hR0 hR1 hR2 rfl (by decide) (z9b w3.heap.size (w7.alloc (.cells (z0e rv3) 56))) (.slice Ax k cx) (z3j v.l rs k) rfl hlow8 hap8 [.string (bs rv3.r.name),.int .i64 rv3.r.ent,.int .i64 rv3.r.ext,.slice rv3.A1 rv3.r.path.length rv3.c1,.slice rv3.A2 rv3.r.pts.length rv3.c2,.slice rv3.A3 rv3.r.secs.length rv3.c3,.int .i64 rv3.r.app,.int .i64 rv3.r.len,.slice rv3.A4 rv3.r.over.length rv3.c4,.slice rv3.A5 rv3.r.opts.length rv3.c5,.slice rv3.A6 rv3.r.osecs.length rv3.c6,.slice rv3.A7 rv3.r.flk.length rv3.c7,.slice rv3.A8 rv3.r.grd.length rv3.c8,.slice rv3.A9 rv3.r.gap.length rv3.c9] rv3.r hy8 HOR.out ⟨w7.heap.size,0,none⟩ 1 rfl (fun j u hj=>by (rw[z0g];exact z0f hbz8 j u hj)) hln (by omega) ?_;intro v' w10 hl10 hf10 hg10;have hbl10:=hf10.blk HJ8.out.1.bl (by decide);have hbx10:Blk w10 wr.heap.size 56 (z0e rv):=(hg10.block _ (z0j HJ8.out.2) (fun he=>hxb _ he.symm rfl)).trans HJ8.out.2;refine hK.out _ _ ⟨z04 hbl10 6 rfl,z04 hbx10 14 rfl⟩ (fun hHeld=>?_);clear hK K;try simp only[Act.put,lsa,lsz,lss]
       refine tkM 1 [9] ?_;have hbt10:=hf10.blk HJ8.out.1.bt (by decide);have z0:=hbt10.cell 0;have zf:=hbt10.free;have zl:=hbt10.lt;simp only[gqA,gqZ,gqS] at z0;obtain ⟨hlk,hre⟩:=HRE.out ();have hJX:=HJ8.out.1.put hlk (r:=rv3.r) (by rw[HR3.out,HR2.out,hre]) hl10 hf10;have HJX:=hE hJX;have HBX:=hE (show Blk (w10.setCell ⟨w3.heap.size,0,none⟩ v') wr.heap.size 56 (z0e rv) from hbx10.far (show wr.heap.size≠w3.heap.size by have:=hgl;omega) _);obtain ⟨Ay,cy,hye⟩:=z2l.form hl10;have hyl:(z3j v.l rs k++[rv3.r]).length=k+1:=by rw[qL,hrl];rfl
       rw[hyl] at hye;subst hye;clear hJX hl10 hg10;refine rd1 10 rfl fun K hK=>?_
       go_simp;refine hK.out _ _ ⟨z04 HJX.out.bl 6 rfl,z04 HBX.out 14 rfl⟩ (fun hHeld=>?_);clear hK K;try simp only[Act.put,lsa,lsz,lss]
       refine wdn ?_;exact TAIL _ _ _ _ _ _ _ _ _ _ _ _ _ _ _ _ _ HJX.out
      focus
       go_simp;refine hK.out _ _ (HSS.out _ (hq57.alloc hq57.size _)) (fun hHeld=>?_);clear hK K;try simp only[Act.put,lsa,lsz,lss]
       have x08:=((hq57.alloc hq57.size (.cells (z0e rv3) 56)).cell (p:=⟨w3.heap.size,0,none⟩) lt5).trans x05;clear x07;refine rd1 1 rfl fun K hK=>?_
       go_simp;refine hK.out _ _ (HSS.out _ (hq57.alloc hq57.size _)) (fun hHeld=>?_);clear hK K;try simp only[Act.put,lsa,lsz,lss]
       clear x08;have h78:Below w7.heap.size w7 (w7.alloc (.cells (z0e rv3) 56)):=bQ.alloc nL _;have h58:Below W5.heap.size W5 (w7.alloc (.cells (z0e rv3) 56)):=z00 hq57 hq57.size h78;have hJ8:=hJ5.now h58;have hbx8:=hb5.now h58;have hbz8:Blk (w7.alloc (.cells (z0e rv3) 56)) w7.heap.size 56 (z0e rv3):=Blk.new _ _ _ _ rfl;have hsz6:w3.heap.size < w6.heap.size:=nT hJ5.gl hq56.size;have hy8:cR.rd (w7.alloc (.cells (z0e rv3) 56)) (z9b w3.heap.size (w7.alloc (.cells (z0e rv3) 56))) [.string (bs rv3.r.name),.int .i64 rv3.r.ent,.int .i64 rv3.r.ext,.slice rv3.A1 rv3.r.path.length rv3.c1,.slice rv3.A2 rv3.r.pts.length rv3.c2,.slice rv3.A3 rv3.r.secs.length rv3.c3,.int .i64 rv3.r.app,.int .i64 rv3.r.len,.slice rv3.A4 rv3.r.over.length rv3.c4,.slice rv3.A5 rv3.r.opts.length rv3.c5,.slice rv3.A6 rv3.r.osecs.length rv3.c6,.slice rv3.A7 rv3.r.flk.length rv3.c7,.slice rv3.A8 rv3.r.grd.length rv3.c8,.slice rv3.A9 rv3.r.gap.length rv3.c9] rv3.r:=⟨rv3,rfl,rfl,(hrv3.keep fun p hp=>h78.cell hp.2.1).more fun c hc=>⟨nT hsz6 hc.1,nT hc.2.1 h78.size,fun cs fr he=>hc.2.2 cs fr (by rw[←h78.block c hc.2.1];exact he)⟩⟩
       have hln:(z3j v.l rs k).length≤100000:=by rw[hrl];omega
       have HJ8:=hE (aIq hJ8 hbx8);have hlow8:z2l cR (w7.alloc (.cells (z0e rv3) 56)) w3.heap.size (z9b w3.heap.size (w7.alloc (.cells (z0e rv3) 56))) 56 (.slice Ax k cx) (z3j v.l rs k):=hJ8.own;have hap8:=y6p.apart hJ8.own;have HOR:=hE (z4m _ _ hy8);clear hJ8 hbx8;refine rd1 8 rfl fun K hK=>?_
       refine z0b (c:=cR) rfl _ _ 30 rfl w3.heap.size 56 iR _ 264 Tryz.underlying30 hiR hR0 hR1 hR2 rfl (by decide) (z9b w3.heap.size (w7.alloc (.cells (z0e rv3) 56))) (.slice Ax k cx) (z3j v.l rs k) rfl hlow8 hap8 [.string (bs rv3.r.name),.int .i64 rv3.r.ent,.int .i64 rv3.r.ext,.slice rv3.A1 rv3.r.path.length rv3.c1,.slice rv3.A2 rv3.r.pts.length rv3.c2,.slice rv3.A3 rv3.r.secs.length rv3.c3,.int .i64 rv3.r.app,.int .i64 rv3.r.len,.slice rv3.A4 rv3.r.over.length rv3.c4,.slice rv3.A5 rv3.r.opts.length rv3.c5,.slice rv3.A6 rv3.r.osecs.length rv3.c6,.slice rv3.A7 rv3.r.flk.length rv3.c7,.slice rv3.A8 rv3.r.grd.length rv3.c8,.slice rv3.A9 rv3.r.gap.length rv3.c9] rv3.r hy8 HOR.out ⟨w7.heap.size,0,none⟩ 1 rfl (fun j u hj=>by (rw[z0g];exact z0f hbz8 j u hj)) hln (by omega) ?_;intro v' w10 hl10 hf10 hg10;have hbl10:=hf10.blk HJ8.out.1.bl (by decide);have hbx10:Blk w10 wr.heap.size 56 (z0e rv):=(hg10.block _ (z0j HJ8.out.2) (fun he=>hxb _ he.symm rfl)).trans HJ8.out.2;refine hK.out _ _ ⟨z04 hbl10 6 rfl,z04 hbx10 14 rfl⟩ (fun hHeld=>?_);clear hK K;try simp only[Act.put,lsa,lsz,lss]
       refine tkM 1 [9] ?_;have hbt10:=hf10.blk HJ8.out.1.bt (by decide);have z0:=hbt10.cell 0;have zf:=hbt10.free;have zl:=hbt10.lt;simp only[gqA,gqZ,gqS] at z0;obtain ⟨hlk,hre⟩:=HRE.out ();have hJX:=HJ8.out.1.put hlk (r:=rv3.r) (by rw[HR3.out,HR2.out,hre]) hl10 hf10;have HJX:=hE hJX;have HBX:=hE (show Blk (w10.setCell ⟨w3.heap.size,0,none⟩ v') wr.heap.size 56 (z0e rv) from hbx10.far (show wr.heap.size≠w3.heap.size by have:=hgl;omega) _);obtain ⟨Ay,cy,hye⟩:=z2l.form hl10;have hyl:(z3j v.l rs k++[rv3.r]).length=k+1:=by rw[qL,hrl];rfl
       rw[hyl] at hye;subst hye;clear hJX hl10 hg10;refine rd1 10 rfl fun K hK=>?_
       go_simp;refine hK.out _ _ ⟨z04 HJX.out.bl 6 rfl,z04 HBX.out 14 rfl⟩ (fun hHeld=>?_);clear hK K;try simp only[Act.put,lsa,lsz,lss]
       refine wdn ?_;exact TAIL _ _ _ _ _ _ _ _ _ _ _ _ _ _ _ _ _ HJX.out
   case neg=>
    obtain rfl:k=rs.length:=by omega
    have hki:¬(rs.length:Int) < (rs.length:Int):=by omega
    have hbl:=hJ.bl;have HPT:=hE (x1m v (by omega) wr (hr.now hJ.bel));unfold lvA at HPT;have ld0:=z04 hbl 6 rfl;have HGL:=hE hJ.gl;have HJ:=hE hJ;clear hJ hlt hbl;go_wp2_with fail
    refine HPT.out.mono ?_;rintro en w8 ⟨Ap,cp,rfl,hop,hq⟩;have hJ8:=HJ.out.now hq;clear HPT ld0 HJ hki;have hpl:=y0j hK;have HPS:=hE (show ∀ (j:Nat) (h:j < (z1m v.l).length),z2w v.l (z1m v.l)[j]=true from fun j h=>(z5f.1 (uE h)).1);generalize z1m v.l=ps at *;have hlow8:=hJ8.own;have hxo:∀ b,x.ownBlock=some b→b≠w3.heap.size:=fun b hb=>z2l.ne hlow8 hJ8.bt (by decide) b hb
    have hK8:BdK v w w3 w8 ps 0 0 x (.slice none 0 0) (.slice none 0 0) w8:=⟨hJ8.bt,z09.nil _ _ _ _ nZ,z09.nil _ _ _ _ nZ,(fun b hb=>by cases hb),fun _ _ _=>rfl,nL,hJ8.bel,hJ8.lt,hJ8.gl⟩
    have HK8:=hE hK8;have HC8:=hE (aIq hJ8.bl (aIq hJ8.bz (aIq hlow8 hxo)));have HOP:=hE (hop.rdn.2.more (fun b hb=>(⟨nT HGL.out hb.1,hb.2⟩:w3.heap.size < b∧b < w8.heap.size)));have HLE:=hE (aIq (Nat.le_of_lt (Nat.lt_of_le_of_lt (Nat.le_succ _) hJ8.lt)) hJ8.lt);obtain ⟨Ax,cx,hxe⟩:=z2l.form hlow8;have hrl:=z7s (l:=v.l) (rs:=rs) nL;rw[hrl] at hxe;subst hxe;clear hK8 hJ8 hlow8 hxo hop hq;go_wp2_with fail
    go_loopw [47] (fun n wr=>∃ (k:Nat) (y z:Value),n=.int .i64 k∧k≤ps.length∧BdK v w w3 w8 ps k k (.slice Ax rs.length cx) y z wr) (fun n _=>ps.length - (intOf n).toNat)
    case atStart=>exact ⟨0,_,_,rfl,nZ,HK8.out⟩
    case round=>
     obtain ⟨k,y,z,rfl,hkl2,hJ⟩:=hrel;clear HK8;by_cases hlt:k < ps.length;case pos=>
      have hki:(k:Int) < (ps.length:Int):=by omega
      have hk1:k+1≤ps.length:=hlt;have hrd:RdS cI wr (fun b=>w3.heap.size < b∧b < w8.heap.size) Ap ps:=HOP.out.keep fun p hp=>z0k (hJ.k8 _ hp.2 (by have:=hp.1;omega))
      obtain ⟨b,off,hA,lb,ho,y0⟩:=hrd.elI hlt;subst hA;have lb':b < wr.heap.size:=nT lb.2 hJ.sz;obtain ⟨el,hel⟩:∃ e,ps[k]=e:=⟨_,rfl⟩
      rw[hel] at ho y0;have HT1:=hE (show ps.take (k+1)=ps.take k++[el] by rw[tqS hlt,hel]);have HT2:=hE (show (ps.take (k+1)).map (z0d v.l)=(ps.take k).map (z0d v.l)++[z0d v.l el] by rw[HT1.out,List.map_append];rfl);have hse:z2w v.l el=true:=by rw[←hel];exact HPS.out k hlt
      have hsec:=(hK.el el hse).2.2.2;have hs64:z0p (z0d v.l el):=⟨by omega,by omega⟩
      have r1:=hJ.bt.cell 1;have rl:=hJ.bt.lt;simp only[gqA,gqZ,gqS] at r1;have h4:Below wr.heap.size wr (wr.alloc (.cells #[.int .i64 el] 3)):=bQ.alloc nL _;have hbz4:Blk (wr.alloc (.cells #[.int .i64 el] 3)) wr.heap.size 3 #[.int .i64 el]:=Blk.new _ _ _ _ rfl;have hJ4:=hJ.now h4;have hown4:=hJ4.o1;obtain ⟨pk,hpk⟩:∃ pk,ps.take k=pk:=⟨_,rfl⟩
      have hpkl:pk.length=k:=by rw[←hpk,lTk];omega
      rw[hpk] at hown4 HT1;have hln:pk.length≤100000:=by omega
      have hws:=hJ4.sz;have HJ4:=hE hJ4;obtain ⟨Ay,cy,hye⟩:=hown4.form;obtain ⟨Az,cz,hze⟩:=hJ4.o2.form;have hzl:((ps.take k).map (z0d v.l)).length=k:=by rw[List.length_map,hpk,hpkl]
      rw[hzl] at hze;rw[hpkl] at hye;subst hye;subst hze;clear hJ hJ4 hrd hlt hel hse lb;go_upto_region 14 with (at_builtin;(refine z0m (c:=cI) _ rfl _ _ 31 rfl w8.heap.size 3 iI _ 8 Tryz.underlying31 hiI hI0 hI1 hI2 rfl (by decide) _ pk 0 rfl hown4 [.int .i64 el] el ⟨rfl,ho⟩ (by simp[Value.oneCell']) ⟨wr.heap.size,0,none⟩ 1 rfl (fun j u hj=>by rw[z0g];exact z0f hbz4 j u hj) hln (by omega) hws ?_);intro v' w5 hq5;obtain ⟨A7,c7,rfl⟩:=hq5.own.form;have hbt5:=hq5.frm.blk HJ4.out.bt (by decide);have g1:=hbt5.cell 1;have gf:=hbt5.free;have gl:=hbt5.lt;clear hbt5;simp only[gqA,gqZ,gqS] at g1)
      have hpl1:(pk++[el]).length=k+1:=by rw[qL,hpkl];rfl
      have hJ6:=HJ4.out.j8w (e:=el) (by rw[hpk];exact HT1.out) (by rw[hpk];exact hq5);rw[hpl1] at hJ6;obtain ⟨w6,hw6⟩:∃ W,W=w5.setCell ⟨w3.heap.size,1,none⟩ (.slice A7 (k+1) c7):=⟨_,rfl⟩
      rw[←hw6] at hJ6 ⊢;clear hw6 hq5 g1 gf gl hown4 hbz4 h4 HJ4 r1 rl y0;have hbl6:=hJ6.blk HC8.out.1 (by have:=HLE.out.1;omega);have z2:=hJ6.bt.cell 2;have zl:=hJ6.bt.lt;simp only[gqA,gqZ,gqS] at z2;have HSC:=hE fun W (h:Below w6.heap.size w6 W)=>z3c v el W (hr.now (z00 hJ6.bel hJ6.bel.size h))
      unfold lvA at HSC;have HSS:Hid (∀ W,Below w6.heap.size w6 W→(fun w'=>Sem.run Tryz.prog (loadCellsFrom ⟨w.heap.size,0,none⟩ 0 6 #[]) w' = .ok (z1c v) w') W):=hE fun W h=>z04 (hbl6.now h) 6 rfl
      obtain ⟨se,hsee⟩:∃ se,z0d v.l el=se:=⟨_,rfl⟩
      rw[hsee] at HSC HT2 hs64 hsec;obtain ⟨zk,hzk⟩:∃ zk,(ps.take k).map (z0d v.l)=zk:=⟨_,rfl⟩
      rw[hzk] at HT2;have hzkl:zk.length=k:=by rw[←hzk];exact hzl
      clear hsee hbl6;skip;refine rgS 9 HSS fun hHeld=>?_
      refine tkM 3 [0,2,3] ?_;refine rd2 1 4 rfl rfl (fun K hK=>?_) fun K hK=>?_
      focus
       go_simp;refine hK.out _ _ (HSS.out _ bQ.drew) (fun hHeld=>?_);clear hK K;try simp only[Act.put,lsa,lsz,lss]
       refine rd1 4 rfl fun K hK=>?_
       go_simp;go_at_call 18
       refine (HSC.out _ bQ.drew).mono ?_;rintro en w7 ⟨rfl,hq7⟩;have hq67:Below w6.heap.size w6 w7:=bQ.drew.trans hq7;go_wp2_with fail
       refine hK.out _ _ (HSS.out _ hq67) (fun hHeld=>?_);clear hK K;try simp only[Act.put,lsa,lsz,lss]
       refine rd1 5 rfl fun K hK=>?_
       go_simp;refine hK.out _ _ (HSS.out _ (hq67.alloc hq67.size _)) (fun hHeld=>?_);clear hK K;try simp only[Act.put,lsa,lsz,lss]
       have h68:Below w6.heap.size w6 (w7.alloc (.cells #[.int .i64 se] 3)):=hq67.alloc hq67.size _;have hJ8:=hJ6.now h68;have hbz8:Blk (w7.alloc (.cells #[.int .i64 se] 3)) w7.heap.size 3 #[.int .i64 se]:=Blk.new _ _ _ _ rfl;have hown8:=hJ8.o2;rw[hzk] at hown8;have hws8:=hJ8.sz;have hln8:zk.length≤100000:=by omega
       have HJ8:=hE hJ8;clear hJ8;refine rd1 6 rfl fun K hK=>?_
       refine z5h (c:=cI) rfl _ _ 31 rfl w8.heap.size 3 iI _ 8 Tryz.underlying31 hiI hI0 hI1 hI2 rfl (by decide) _ zk 0 rfl hown8 [.int .i64 se] se ⟨rfl,hs64⟩ (by simp[Value.oneCell']) ⟨w7.heap.size,0,none⟩ 1 rfl (fun j u hj=>by (rw[z0g];exact z0f hbz8 j u hj)) hln8 (by omega) hws8 ?_;intro v' w10 hq10;have hbl10:=hq10.frm.blk (HJ8.out.blk HC8.out.1 (by have:=HLE.out.1;omega)) (by decide);refine hK.out _ _ (z04 hbl10 6 rfl) (fun hHeld=>?_);clear hK K;try simp only[Act.put,lsa,lsz,lss]
       refine tkM 1 [7] ?_;obtain ⟨Aw,cw,hwe⟩:=hq10.own.form;subst hwe;have hbt10:=hq10.frm.blk HJ8.out.bt (by decide);have zz:=hbt10.cell 2;have zf:=hbt10.free;have zlt:=hbt10.lt;simp only[gqA,gqZ,gqS] at zz;have hJX:=HJ8.out.j8x (e:=se) (by rw[hzk];exact HT2.out) (by rw[hzk];exact hq10);have hwl:(zk++[se]).length=k+1:=by rw[qL,hzkl];rfl
       rw[hwl] at hJX;have HJX:=hE hJX;have HBX:=hE (show Blk (w10.setCell ⟨w3.heap.size,2,none⟩ (.slice Aw (k+1) cw)) w.heap.size 28 (z1c v) from hbl10.far (show w.heap.size≠w3.heap.size by have:=HLE.out.2;omega) _);clear hJX hq10 hbt10 hbl10;refine rd1 8 rfl fun K hK=>?_
       go_simp;refine hK.out _ _ (z04 HBX.out 6 rfl) (fun hHeld=>?_);clear hK K;try simp only[Act.put,lsa,lsz,lss]
       refine wdn ?_;clear hHeld zz zf zlt;go_wp2_with fail
       go_roundw
       case rel=>exact ⟨k+1,_,_,by go_num,hk1,HJX.out⟩
       case measure=>simp[intOf];omega
      focus
       go_simp;go_at_call 18
       refine (HSC.out _ bQ.drew).mono ?_;rintro en w7 ⟨rfl,hq7⟩;have hq67:Below w6.heap.size w6 w7:=bQ.drew.trans hq7;go_wp2_with fail
       refine hK.out _ _ (HSS.out _ hq67) (fun hHeld=>?_);clear hK K;try simp only[Act.put,lsa,lsz,lss]
       have z27:=(hq67.cell (p:=⟨w3.heap.size,2,none⟩) zl).trans z2;refine rd2 1 5 rfl rfl (fun K hK=>?_) fun K hK=>?_
       focus
        go_simp;refine hK.out _ _ (HSS.out _ hq67) (fun hHeld=>?_);clear hK K;try simp only[Act.put,lsa,lsz,lss]
        clear z27;refine rd1 5 rfl fun K hK=>?_
        go_simp;refine hK.out _ _ (HSS.out _ (hq67.alloc hq67.size _)) (fun hHeld=>?_);clear hK K;try simp only[Act.put,lsa,lsz,lss]
        have h68:Below w6.heap.size w6 (w7.alloc (.cells #[.int .i64 se] 3)):=hq67.alloc hq67.size _;have hJ8:=hJ6.now h68;have hbz8:Blk (w7.alloc (.cells #[.int .i64 se] 3)) w7.heap.size 3 #[.int .i64 se]:=Blk.new _ _ _ _ rfl;have hown8:=hJ8.o2;rw[hzk] at hown8;have hws8:=hJ8.sz;have hln8:zk.length≤100000:=by omega
        have HJ8:=hE hJ8;clear hJ8;refine rd1 6 rfl fun K hK=>?_
        refine z5h (c:=cI) rfl _ _ 31 rfl w8.heap.size 3 iI _ 8 Tryz.underlying31 hiI hI0 hI1 hI2 rfl (by decide) _ zk 0 rfl hown8 [.int .i64 se] se ⟨rfl,hs64⟩ (by simp[Value.oneCell']) ⟨w7.heap.size,0,none⟩ 1 rfl (fun j u hj=>by (rw[z0g];exact z0f hbz8 j u hj)) hln8 (by omega) hws8 ?_;intro v' w10 hq10;have hbl10:=hq10.frm.blk (HJ8.out.blk HC8.out.1 (by have:=HLE.out.1;omega)) (by decide);refine hK.out _ _ (z04 hbl10 6 rfl) (fun hHeld=>?_);clear hK K;try simp only[Act.put,lsa,lsz,lss]
        refine tkM 1 [7] ?_;obtain ⟨Aw,cw,hwe⟩:=hq10.own.form;subst hwe;have hbt10:=hq10.frm.blk HJ8.out.bt (by decide);have zz:=hbt10.cell 2;have zf:=hbt10.free;have zlt:=hbt10.lt;simp only[gqA,gqZ,gqS] at zz;have hJX:=HJ8.out.j8x (e:=se) (by rw[hzk];exact HT2.out) (by rw[hzk];exact hq10);have hwl:(zk++[se]).length=k+1:=by rw[qL,hzkl];rfl
        rw[hwl] at hJX;have HJX:=hE hJX;have HBX:=hE (show Blk (w10.setCell ⟨w3.heap.size,2,none⟩ (.slice Aw (k+1) cw)) w.heap.size 28 (z1c v) from hbl10.far (show w.heap.size≠w3.heap.size by have:=HLE.out.2;omega) _);clear hJX hq10 hbt10 hbl10;refine rd1 8 rfl fun K hK=>?_
        go_simp;refine hK.out _ _ (z04 HBX.out 6 rfl) (fun hHeld=>?_);clear hK K;try simp only[Act.put,lsa,lsz,lss]
        refine wdn ?_;clear hHeld zz zf zlt;go_wp2_with fail
        go_roundw
        case rel=>exact ⟨k+1,_,_,by go_num,hk1,HJX.out⟩
        case measure=>simp[intOf];omega
       focus
        go_simp;refine hK.out _ _ (HSS.out _ (hq67.alloc hq67.size _)) (fun hHeld=>?_);clear hK K;try simp only[Act.put,lsa,lsz,lss]
        have z28:=((hq67.alloc hq67.size (.cells #[.int .i64 se] 3)).cell (p:=⟨w3.heap.size,2,none⟩) zl).trans z2;clear z27;refine rd1 1 rfl fun K hK=>?_
        go_simp;refine hK.out _ _ (HSS.out _ (hq67.alloc hq67.size _)) (fun hHeld=>?_);clear hK K;try simp only[Act.put,lsa,lsz,lss]
        clear z28;have h68:Below w6.heap.size w6 (w7.alloc (.cells #[.int .i64 se] 3)):=hq67.alloc hq67.size _;have hJ8:=hJ6.now h68;have hbz8:Blk (w7.alloc (.cells #[.int .i64 se] 3)) w7.heap.size 3 #[.int .i64 se]:=Blk.new _ _ _ _ rfl;have hown8:=hJ8.o2;rw[hzk] at hown8;have hws8:=hJ8.sz;have hln8:zk.length≤100000:=by omega
        have HJ8:=hE hJ8;clear hJ8;refine rd1 6 rfl fun K hK=>?_
        refine z5h (c:=cI) rfl _ _ 31 rfl w8.heap.size 3 iI _ 8 Tryz.underlying31 hiI hI0 hI1 hI2 rfl (by decide) _ zk 0 rfl hown8 [.int .i64 se] se ⟨rfl,hs64⟩ (by simp[Value.oneCell']) ⟨w7.heap.size,0,none⟩ 1 rfl (fun j u hj=>by (rw[z0g];exact z0f hbz8 j u hj)) hln8 (by omega) hws8 ?_;intro v' w10 hq10;have hbl10:=hq10.frm.blk (HJ8.out.blk HC8.out.1 (by have:=HLE.out.1;omega)) (by decide);refine hK.out _ _ (z04 hbl10 6 rfl) (fun hHeld=>?_);clear hK K;try simp only[Act.put,lsa,lsz,lss]
        refine tkM 1 [7] ?_;obtain ⟨Aw,cw,hwe⟩:=hq10.own.form;subst hwe;have hbt10:=hq10.frm.blk HJ8.out.bt (by decide);have zz:=hbt10.cell 2;have zf:=hbt10.free;have zlt:=hbt10.lt;simp only[gqA,gqZ,gqS] at zz;have hJX:=HJ8.out.j8x (e:=se) (by rw[hzk];exact HT2.out) (by rw[hzk];exact hq10);have hwl:(zk++[se]).length=k+1:=by rw[qL,hzkl];rfl
        rw[hwl] at hJX;have HJX:=hE hJX;have HBX:=hE (show Blk (w10.setCell ⟨w3.heap.size,2,none⟩ (.slice Aw (k+1) cw)) w.heap.size 28 (z1c v) from hbl10.far (show w.heap.size≠w3.heap.size by have:=HLE.out.2;omega) _);clear hJX hq10 hbt10 hbl10;refine rd1 8 rfl fun K hK=>?_
        go_simp;refine hK.out _ _ (z04 HBX.out 6 rfl) (fun hHeld=>?_);clear hK K;try simp only[Act.put,lsa,lsz,lss]
        refine wdn ?_;clear hHeld zz zf zlt;go_wp2_with fail
        go_roundw
        case rel=>exact ⟨k+1,_,_,by go_num,hk1,HJX.out⟩
        case measure=>simp[intOf];omega
     case neg=>
      obtain rfl:k=ps.length:=by omega
      have hki:¬(ps.length:Int) < (ps.length:Int):=by omega
      have ho1:=hJ.o1;have ho2:=hJ.o2;rw[List.take_length] at ho1 ho2;obtain ⟨Ay,cy,rfl⟩:=ho1.form;obtain ⟨Az,cz,hze⟩:=ho2.form;have hml:(ps.map (z0d v.l)).length=ps.length:=List.length_map ..;rw[hml] at hze;subst hze;have ho2:z09 cI wr w8.heap.size 3 (.slice Az (ps.map (z0d v.l)).length cz) (ps.map (z0d v.l)) 0:=by rw[hml];exact ho2
      have hlr:=hJ.rts HC8.out.2.2.1 HC8.out.2.2.2;have hbz:=hJ.blk HC8.out.2.1 (by have:=HLE.out.2;omega);have ld5:=z04 hJ.bt 5 rfl;obtain ⟨h1,h2,h3,h4,h5⟩:=HTF.out;have hl1:(z5i v.l).rts.length=rs.length:=by rw[h1,z7s nL]
      obtain ⟨tv,htv⟩:∃ tv:z1w,tv = { t:=z5i v.l,A1:=Ax,A2:=Ay,A3:=Az,c1:=cx,c2:=cy,c3:=cz }:=⟨_,rfl⟩
      have hcv:((z0t tv):Array Value)=#[.slice Ax rs.length cx,.slice Ay ps.length cy,.slice Az ps.length cz,.int .i64 (v.l.secs.length:Int),.int .i64 (v.l.sgs.length:Int)]:=by rw[htv];unfold z0t;dsimp only;rw[hl1,h2,h3,h4,h5,hml]
      obtain ⟨hp,hf⟩:=z0q #[.slice Ax rs.length cx,.slice Ay ps.length cy,.slice Az ps.length cz,.int .i64 (v.l.secs.length:Int),.int .i64 (v.l.sgs.length:Int)] hbz;obtain ⟨WX,hWX⟩:∃ W,W=wr.setRow (w.heap.size+1) #[.slice Ax rs.length cx,.slice Ay ps.length cy,.slice Az ps.length cz,.int .i64 (v.l.secs.length:Int),.int .i64 (v.l.sgs.length:Int)]:=⟨_,rfl⟩
      have hbX:Below w.heap.size w WX:=by rw[hWX];exact hf.keeps (show w.heap.size≤w.heap.size+1 by omega) hJ.bel.size hJ.bel
      have hkX:∀ b,w3.heap.size≤b→WX.heap[b]? = wr.heap[b]?:=fun b hb=>by rw[hWX];exact setRow_other _ _ _ _ (by have:=HLE.out.2;omega)
      have hzX:WX.heap.size=wr.heap.size:=by rw[hWX];simp
      have hg8:=hJ.g8;have hszJ:=hJ.sz;obtain ⟨A1',c1',he1,hn1,hr1⟩:=z2l.rds hlr (S':=fun b=>w3.heap.size≤b∧b < wr.heap.size) (fun b hb=>⟨Nat.le_of_lt hb.1,nT hb.lt hszJ⟩) (fun b hb=>by have:=z2l.lt hlr b hb;exact this);rw[z7s nL] at he1;simp only[Value.slice.injEq] at he1;obtain ⟨rfl,-,rfl⟩:=he1;have HTV:=hE (show TvR WX tv by
       rw[htv];refine ⟨?_,?_,?_,?_,?_,?_,?_,?_⟩
       ·dsimp only;rw[h1];exact (hr1.keep fun p hp=>z0k (hkX _ hp.1)).more fun b hb=>(show b < WX.heap.size by rw[hzX];exact hb.2)
       ·dsimp only;rw[h2];exact (ho1.rdn.2.keep fun p hp=>z0k (hkX _ (by have:=hp.1;omega))).more fun b hb=>(show b < WX.heap.size by rw[hzX];exact hb.2)
       ·dsimp only;rw[h3];exact (ho2.rdn.2.keep fun p hp=>z0k (hkX _ (by have:=hp.1;omega))).more fun b hb=>(show b < WX.heap.size by rw[hzX];exact hb.2)
       ·dsimp only;rw[h1];exact hn1
       ·dsimp only;rw[h2];exact ho1.rdn.1
       ·dsimp only;rw[h3];exact ho2.rdn.1
       ·dsimp only;rw[h4];constructor <;> omega
       ·dsimp only;rw[h5];constructor <;> omega)
      have HP:=hE hp;have HZ:=hE hbz;have HWX:=hE hWX;have HCV:=hE hcv;have HTT:=hE (show tv.t=z5i v.l by rw[htv]);have HBX:=hE hbX;clear hJ ho1 ho2 hlr hbz h1 h2 h3 h4 h5 hl1 htv hcv hp hf hWX hbX hkX hzX hr1 hn1 hkl2 hlt hml;go_wp2_with ((refine wpList_store_row rfl _ _ _ rfl (w.heap.size+1) #[.slice Ax rs.length cx,.slice Ay ps.length cy,.slice Az ps.length cz,.int .i64 (v.l.secs.length:Int),.int .i64 (v.l.sgs.length:Int)] rfl rfl 33 #[.slice none 0 0,.slice none 0 0,.slice none 0 0,.int .i64 0,.int .i64 0] HZ.out (by kernel_rfl) rfl (by simp[Value.oneCell']) ?_))
      rw[←HWX.out];have ldp:Sem.run Tryz.prog (loadCellsFrom ⟨w.heap.size+1,0,none⟩ 0 5 #[]) WX=.ok #[.slice Ax rs.length cx,.slice Ay ps.length cy,.slice Az ps.length cz,.int .i64 (v.l.secs.length:Int),.int .i64 (v.l.sgs.length:Int)] WX:=by rw[HWX.out];exact z04 HP.out 5 rfl
      have pl:w.heap.size+1 < WX.heap.size:=by rw[HWX.out];exact HP.out.lt
      rw[←HCV.out] at ldp;clear ld5;refine bodyPost_ret (v:=.tuple #[.agg (z0t tv),.int .i64 0]) (by simp[results,Tryz.results5,go_sem,ldp,pl]) rfl ?_;exact ⟨tv,by rw[HBL.out],by rw[HBL.out];exact HTT.out,HTV.out,HBX.out⟩
theorem z6h {α:Type} {c:Cod α} {w:World} {base g n:Nat} {e:TypeId} {cs:Array Value} {l:List α} (h:Blk w g e cs) (hb:base≤g) (hn:n≤maxLen) (hln:l.length=n) (hsz:cs.size=n*c.size) (hr:RdC c w (Sep w e 0) cs.toList l):z09 c w base e (.slice (some ⟨g,0,none⟩) n n) l 0:=by
 subst hln;exact ⟨cs.toList,⟨by simpa using hsz,Or.inr ⟨g,l.length,cs,rfl,hb,h,nL,hn,hsz,by rw[tlL (by simp;omega)]⟩⟩,hr,nZ⟩
theorem x37:(Tryz.prog.info? 103).map (fun i=>(i.zero,i.size,i.bytes))=some (some (.agg #[.string (ByteArray.mk #[]),.int .i64 0,.int .i64 0,.int .i64 0,.int .i64 0,.int .i64 0,.int .i64 0]),7,64):=by kernel_rfl
theorem j1i {w:World} {S:Nat→Prop} (ys:List Value) (x:Elt) (h:cE.rd w S ys x):∀ u∈ys,u.oneCell' = true:=by
 obtain ⟨rfl,-⟩:=h;intro u hu;simp only[j9l,List.mem_cons,List.not_mem_nil,or_false] at hu;rcases hu with rfl | rfl | rfl | rfl | rfl | rfl | rfl <;> rfl
def y7m (k:Nat):Elt:=⟨[97+UInt8.ofNat k],1,20000,0,1000,0,(k:Int)⟩
def y3x (k:Nat):List Elt:=(List.range k).map y7m
theorem x1a (k:Nat):y3x (k+1)=y3x k++[y7m k]:=by simp[y3x,List.range_succ]
theorem z7l (k:Nat):(y3x k).length=k:=by simp[y3x]
structure LnJ (w:World) (k:Nat) (x:Value) (wr:World):Prop where
 b0:Blk wr w.heap.size 28 #[.string (ByteArray.mk #[]),.slice none 0 0,.slice none 0 0,.slice none 0 0,.slice none 0 0,.slice none 0 0]
 b1:Blk wr (w.heap.size+1) 9 #[.string (bs [97]),.string (bs [98]),.string (bs [99])]
 b2:Blk wr (w.heap.size+1+1) 105 #[.string (bs [115,49]),.int .i64 0,.int .i64 1,.int .i64 0,.string (bs [115,50]),.int .i64 1,.int .i64 1,.int .i64 0]
 b3:Blk wr (w.heap.size+1+1+1) 28 #[.string (bs [108,105,110,101]),.slice (some ⟨w.heap.size+1,0,none⟩) 3 3,x,.slice none 0 0,.slice (some ⟨w.heap.size+1+1,0,none⟩) 2 2,.slice none 0 0]
 own:z09 cE wr (w.heap.size+1+1+1+1) 103 x (y3x k) 0
 sz:w.heap.size+1+1+1 < wr.heap.size
 bel:Below w.heap.size w wr
theorem LnJ.now {w wr w':World} {k:Nat} {x:Value} (h:LnJ w k x wr) (hb:Below wr.heap.size wr w'):LnJ w k x w':=⟨h.b0.now hb,h.b1.now hb,h.b2.now hb,h.b3.now hb,h.own.now hb,nT h.sz hb.size,z00 h.bel h.bel.size hb⟩
theorem LnJ.put {w wr w':World} {k:Nat} {x x':Value} (h:LnJ w k x wr) (hq:x2b cE wr w' (w.heap.size+1+1+1+1) 103 x x' (y3x k++[y7m k])):LnJ w (k+1) x' (w'.setCell ⟨w.heap.size+1+1+1,2,none⟩ x'):=by
 have h3:=hq.frm.blk h.b3 (by decide);have hz:=h.sz;exact ⟨(hq.frm.blk h.b0 (by decide)).far (show w.heap.size≠w.heap.size+1+1+1 by omega) _,(hq.frm.blk h.b1 (by decide)).far (show w.heap.size+1≠w.heap.size+1+1+1 by omega) _,(hq.frm.blk h.b2 (by decide)).far (show w.heap.size+1+1≠w.heap.size+1+1+1 by omega) _,h3.set 2 _,by rw[x1a];exact (hq.own.low (fun _ _ _ _ _ _ h=>h)).set (w.heap.size+1+1+1) 2 _ 28 _ h3 (by decide) nZ,by simp;exact nT hz hq.frm.size,(hq.frm.keeps (by omega) h.bel.size h.bel).setCell (p:=⟨w.heap.size+1+1+1,2,none⟩) (show w.heap.size≤w.heap.size+1+1+1 by omega) _⟩
theorem x8j (w:World):Calls Tryz.prog 19 #[] w fun e w'=>∃ v:LV,e=.returned (.agg (z1c v))∧v.l=y7n∧LvR w' v∧Below w.heap.size w w':=by
 obtain ⟨i0,hi0,hy0,hy1,hy2⟩:=info_parts x37;obtain ⟨W2,hW2⟩:∃ W,W=(((w.alloc (.cells #[.string (ByteArray.mk #[]),.slice none 0 0,.slice none 0 0,.slice none 0 0,.slice none 0 0,.slice none 0 0] 28)).alloc (.cells #[.string (bs [97]),.string (bs [98]),.string (bs [99])] 9)).alloc (.cells #[.string (bs [115,49]),.int .i64 0,.int .i64 1,.int .i64 0,.string (bs [115,50]),.int .i64 1,.int .i64 1,.int .i64 0] 105)).alloc (.cells #[.string (bs [108,105,110,101]),.slice (some ⟨w.heap.size+1,0,none⟩) 3 3,.slice none 0 0,.slice none 0 0,.slice (some ⟨w.heap.size+1+1,0,none⟩) 2 2,.slice none 0 0] 28):=⟨_,rfl⟩
 have hJ0:LnJ w 0 (.slice none 0 0) W2:=by
  rw[hW2];exact ⟨(((Blk.new _ _ _ _ rfl).alloc _).alloc _).alloc _,((Blk.new _ _ _ _ (by simp)).alloc _).alloc _,(Blk.new _ _ _ _ (by simp)).alloc _,Blk.new _ _ _ _ (by simp),z09.nil _ _ _ _ nZ,by simp,(((bQ.alloc nL _).alloc (by simp) _).alloc (by simp;omega) _).alloc (by simp;omega) _⟩
 go_enter Tryz.func19,Tryz.ntmps19
 have HJ0:=hE hJ0;have r1:=hJ0.b3.cell 1;have rl:=hJ0.b3.lt;simp only[gqA,gqZ,gqS] at r1;clear hJ0;have HW2:=hE hW2;clear hW2;go_upto_region 2 with (fail)
 change Code.wp _ _ _ _ ((((w.alloc (.cells #[.string (ByteArray.mk #[]),.slice none 0 0,.slice none 0 0,.slice none 0 0,.slice none 0 0,.slice none 0 0] 28)).alloc (.cells #[.string (bs [97]),.string (bs [98]),.string (bs [99])] 9)).alloc (.cells #[.string (bs [115,49]),.int .i64 0,.int .i64 1,.int .i64 0,.string (bs [115,50]),.int .i64 1,.int .i64 1,.int .i64 0] 105)).alloc (.cells #[.string (bs [108,105,110,101]),.slice (some ⟨w.heap.size+1,0,none⟩) 3 3,.slice none 0 0,.slice none 0 0,.slice (some ⟨w.heap.size+1+1,0,none⟩) 2 2,.slice none 0 0] 28));rw[←HW2.out];clear HW2;go_wp2_with fail
 clear r1 rl;go_loopw [14] (fun n wr=>∃ (k:Nat) (x:Value),n=.int .i64 k∧k≤3∧LnJ w k x wr) (fun n _=>3 - (intOf n).toNat)
 case atStart=>exact ⟨0,_,rfl,by omega,HJ0.out⟩
 case round=>
  obtain ⟨k,x,rfl,hk,hJ⟩:=hrel;clear HJ0;by_cases hlt:k < 3
  ·have hki:(k:Int) < 3:=by omega
   have hk1:k+1≤3:=hlt;have hc:wr.cell? ⟨w.heap.size+1,k,none⟩=some (.string (bs (y7m k).name)):=by
    have:k=0∨k=1∨k=2:=by omega
    rcases this with rfl | rfl | rfl
    ·exact hJ.b1.cell 0
    ·exact hJ.b1.cell 1
    ·exact hJ.b1.cell 2
   have hl1:=hJ.b1.lt;obtain ⟨nm,hnm⟩:∃ nm,(y7m k).name=nm:=⟨_,rfl⟩
   rw[hnm] at hc;have hnl:nm.length=1:=by rw[←hnm];rfl
   have r2:=hJ.b3.cell 2;have rl:=hJ.b3.lt;simp only[gqA,gqZ,gqS] at r2;have h4:Below wr.heap.size wr (wr.alloc (.cells #[.string (bs nm),.int .i64 1,.int .i64 20000,.int .i64 0,.int .i64 1000,.int .i64 0,.int .i64 (k:Int)] 103)):=bQ.alloc nL _;have hbz4:Blk (wr.alloc (.cells #[.string (bs nm),.int .i64 1,.int .i64 20000,.int .i64 0,.int .i64 1000,.int .i64 0,.int .i64 (k:Int)] 103)) wr.heap.size 103 #[.string (bs nm),.int .i64 1,.int .i64 20000,.int .i64 0,.int .i64 1000,.int .i64 0,.int .i64 (k:Int)]:=Blk.new _ _ _ _ rfl;have hJ4:=hJ.now h4;have hown4:=hJ4.own;have HY:=hE (show ∀ W S,cE.rd W S [.string (bs nm),.int .i64 1,.int .i64 20000,.int .i64 0,.int .i64 1000,.int .i64 0,.int .i64 (k:Int)] (y7m k) from fun W S=>⟨by rw[←hnm];rfl,by rw[hnm,hnl];unfold maxLen;omega,by constructor <;> simp[y7m],by constructor <;> simp[y7m],by constructor <;> simp[y7m],by constructor <;> simp[y7m],by constructor <;> simp[y7m],by constructor <;> (first | (simp[y7m];done) | (simp[y7m];omega))⟩);have hln:(y3x k).length≤100000:=by rw[z7l];omega
   have hws:w.heap.size+1+1+1+1≤(wr.alloc (.cells #[.string (bs nm),.int .i64 1,.int .i64 20000,.int .i64 0,.int .i64 1000,.int .i64 0,.int .i64 (k:Int)] 103)).heap.size:=nR hJ.sz h4.size;have HX4:=hE hJ4;obtain ⟨Ax,cx,hxe⟩:=hown4.form;rw[z7l] at hxe;subst hxe;clear hJ hJ4 hnm hnl;obtain ⟨es,hes⟩:∃ es,y3x k=es:=⟨_,rfl⟩
   have HES:=hE hes;have hel:es.length=k:=by rw[←hes,z7l]
   rw[hes] at hown4 hln;clear hes;go_wp2_with (at_builtin;(refine z0m (c:=cE) _ rfl _ _ 23 rfl (w.heap.size+1+1+1+1) 103 i0 _ 64 Tryz.underlying23 hi0 hy0 hy1 hy2 rfl (by decide) _ es 0 rfl hown4 [.string (bs nm),.int .i64 1,.int .i64 20000,.int .i64 0,.int .i64 1000,.int .i64 0,.int .i64 (k:Int)] (y7m k) (HY.out _ _) (j1i _ _ (HY.out wr (fun _=>True))) ⟨wr.heap.size,0,none⟩ 1 rfl (fun j u hj=>by rw[z0g];exact z0f hbz4 j u hj) hln (by omega) hws ?_);intro v' w7 hq7;obtain ⟨A7,c7,rfl⟩:=hq7.own.form;have hb7:=hq7.frm.blk HX4.out.b3 (by decide);have g2:=hb7.cell 2;have gf:=hb7.free;have gl:=hb7.lt;clear hb7;simp only[gqA,gqZ,gqS] at g2)
   go_roundw
   case rel=>
    have hl7:(es++[y7m k]).length=k+1:=by rw[qL,hel];rfl
    have hJX:=HX4.out.put (by rw[HES.out];exact hq7);rw[hl7] at hJX;exact ⟨k+1,_,by go_num,hk1,hJX⟩
   case measure=>simp[intOf];omega
  ·obtain rfl:k=3:=by omega
   have hki:¬(3:Int) < 3:=by omega
   obtain ⟨Ax,cx,hxe⟩:=hJ.own.form;rw[z7l] at hxe;subst hxe;have r3:=hJ.b3.cell 3;have rf:=hJ.b3.free;have rl:=hJ.b3.lt;simp only[gqA,gqZ,gqS] at r3;obtain ⟨W5,hW5⟩:∃ W,W=wr.setCell ⟨w.heap.size+1+1+1,3,none⟩ (.slice (some ⟨wr.heap.size,0,none⟩) 2 2):=⟨_,rfl⟩
   have hfr:Frm (w.heap.size+1+1+1) 28 wr W5:=by rw[hW5];exact z0l (w:=wr) [.slice (some ⟨wr.heap.size,0,none⟩) 2 2] 3 hJ.b3 nL
   have hz5:W5.heap.size=wr.heap.size:=by rw[hW5];simp
   obtain ⟨W6,hW6⟩:∃ W,W=W5.alloc (.cells #[.int .i64 0,.int .i64 1,.int .i64 1,.int .i64 0,.int .i64 1,.int .i64 1,.int .i64 2,.int .i64 0] 107):=⟨_,rfl⟩
   have c3:Blk W6 (w.heap.size+1+1+1) 28 #[.string (bs [108,105,110,101]),.slice (some ⟨w.heap.size+1,0,none⟩) 3 3,.slice Ax 3 cx,.slice (some ⟨wr.heap.size,0,none⟩) 2 2,.slice (some ⟨w.heap.size+1+1,0,none⟩) 2 2,.slice none 0 0]:=by rw[hW6,hW5];exact (hJ.b3.set 3 _).alloc _
   have c0:Blk W6 w.heap.size 28 #[.string (ByteArray.mk #[]),.slice none 0 0,.slice none 0 0,.slice none 0 0,.slice none 0 0,.slice none 0 0]:=by rw[hW6,hW5];exact (hJ.b0.far (show w.heap.size≠w.heap.size+1+1+1 by omega) _).alloc _
   have h56:Below W5.heap.size W5 W6:=by rw[hW6];exact bQ.alloc nL _
   have c1:=(hfr.blk hJ.b1 (by decide)).now h56;have c2:=(hfr.blk hJ.b2 (by decide)).now h56;have cj:Blk W6 wr.heap.size 107 #[.int .i64 0,.int .i64 1,.int .i64 1,.int .i64 0,.int .i64 1,.int .i64 1,.int .i64 2,.int .i64 0]:=by rw[hW6,←hz5];exact Blk.new _ _ _ _ rfl
   have ce:=(hJ.own.frm hfr (by decide) nZ).now h56;have cb5:=hfr.keeps (show w.heap.size≤w.heap.size+1+1+1 by omega) hJ.bel.size hJ.bel;have cb:=z00 cb5 cb5.size h56;have hzw:wr.heap.size < W6.heap.size:=by rw[hW6];simp[hz5]
   have HC:=hE (aIq c3 (aIq c0 (aIq c1 (aIq c2 (aIq cj (aIq ce (aIq cb hzw)))))));have HW6:=hE (show W6=(wr.setCell ⟨w.heap.size+1+1+1,3,none⟩ (.slice (some ⟨wr.heap.size,0,none⟩) 2 2)).alloc (.cells #[.int .i64 0,.int .i64 1,.int .i64 1,.int .i64 0,.int .i64 1,.int .i64 1,.int .i64 2,.int .i64 0] 107) by rw[hW6,hW5]);have HSZ:=hE hJ.sz;have hne:w.heap.size+1+1+1≠wr.heap.size:=by have:=hJ.sz;omega
   clear hJ c0 c1 c2 c3 cj ce cb cb5 h56 hfr hz5 hzw hW5 hW6 hlt hk;go_upto_region 8 with (fail)
   rw[←HW6.out];clear HW6 r3 rf rl;obtain ⟨c3,c0,c1,c2,cj,ce,cb,hzw⟩:=HC.out;have ld1:=z04 c3 6 rfl;obtain ⟨hp,hf⟩:=z0q #[.string (bs [108,105,110,101]),.slice (some ⟨w.heap.size+1,0,none⟩) 3 3,.slice Ax 3 cx,.slice (some ⟨wr.heap.size,0,none⟩) 2 2,.slice (some ⟨w.heap.size+1+1,0,none⟩) 2 2,.slice none 0 0] c0;obtain ⟨WX,hWX⟩:∃ W,W=W6.setRow w.heap.size #[.string (bs [108,105,110,101]),.slice (some ⟨w.heap.size+1,0,none⟩) 3 3,.slice Ax 3 cx,.slice (some ⟨wr.heap.size,0,none⟩) 2 2,.slice (some ⟨w.heap.size+1+1,0,none⟩) 2 2,.slice none 0 0]:=⟨_,rfl⟩
   have hbX:Below w.heap.size w WX:=by rw[hWX];exact hf.keeps nL cb.size cb
   have hk:∀ b,b≠w.heap.size→WX.heap[b]? = W6.heap[b]?:=fun b hb=>by rw[hWX];exact setRow_other _ _ _ _ hb
   have hzX:WX.heap.size=W6.heap.size:=by rw[hWX];simp
   have c1X:Blk WX (w.heap.size+1) 9 #[.string (bs [97]),.string (bs [98]),.string (bs [99])]:=(hk _ (by omega)).trans c1;have c2X:Blk WX (w.heap.size+1+1) 105 #[.string (bs [115,49]),.int .i64 0,.int .i64 1,.int .i64 0,.string (bs [115,50]),.int .i64 1,.int .i64 1,.int .i64 0]:=(hk _ (by omega)).trans c2;have cjX:Blk WX wr.heap.size 107 #[.int .i64 0,.int .i64 1,.int .i64 1,.int .i64 0,.int .i64 1,.int .i64 1,.int .i64 2,.int .i64 0]:=(hk _ (by have:=HSZ.out;omega)).trans cj;have h6:(6:Nat)≤maxLen:=by unfold maxLen;omega
   have k1:=z6h (c:=cS) (base:=0) (n:=3) (l:=[[97],[98],[99]]) c1X nZ (by omega) rfl rfl ⟨[_],[_,_],rfl,⟨rfl,by unfold maxLen;simp⟩,[_],[_],rfl,⟨rfl,by unfold maxLen;simp⟩,[_],[],rfl,⟨rfl,by unfold maxLen;simp⟩,rfl⟩;have i0:z0p 0:=by constructor <;> simp
   have i1:z0p 1:=by constructor <;> simp
   have i2:z0p 2:=by constructor <;> simp
   have k4:=z6h (c:=cSg) (base:=0) (n:=2) (l:=y7n.sgs) c2X nZ (by omega) rfl rfl ⟨[_,_,_,_],[_,_,_,_],rfl,⟨rfl,by unfold maxLen;simp,⟨i0,i1⟩,i0⟩,[_,_,_,_],[],rfl,⟨rfl,by unfold maxLen;simp,⟨i1,i1⟩,i0⟩,rfl⟩;have k3:=z6h (c:=cJ) (base:=0) (n:=2) (l:=y7n.jts) cjX nZ (by omega) rfl rfl ⟨[_,_,_,_],[_,_,_,_],rfl,⟨rfl,⟨i0,i1⟩,⟨i1,i0⟩⟩,[_,_,_,_],[],rfl,⟨rfl,⟨i1,i1⟩,⟨i2,i0⟩⟩,rfl⟩;have k2:RdS cE WX (Lt WX) Ax y7n.els:=(ce.rdn.2.keep fun p hp=>z0k (hk _ (by have:=hp.1;omega))).more fun b hb=>(show b < WX.heap.size by rw[hzX];exact hb.2)
   have HV:=hE (show LvR WX { l:=y7n,A1:=some ⟨w.heap.size+1,0,none⟩,A2:=Ax,A3:=some ⟨wr.heap.size,0,none⟩,A4:=some ⟨w.heap.size+1+1,0,none⟩,A5:=none,c1:=3,c2:=cx,c3:=2,c4:=2,c5:=0 } from
    ⟨show 4≤maxLen by unfold maxLen;omega,k1.rdn.2.more fun b h=>h.2,k2,k3.rdn.2.more fun b h=>h.2,k4.rdn.2.more fun b h=>h.2,RdS.nil _ _ _ _,⟨show 3≤maxLen by unfold maxLen;omega,Nat.le_refl 3⟩,ce.rdn.1,⟨show 2≤maxLen by unfold maxLen;omega,Nat.le_refl 2⟩,⟨show 2≤maxLen by unfold maxLen;omega,Nat.le_refl 2⟩,⟨nZ,nZ⟩⟩)
   have HP:=hE hp;have HWX:=hE hWX;have HZ:=hE c0;have HBX:=hE hbX;clear c3 c0 c1 c2 cj ce cb hzw hp hf hWX hbX hk hzX c1X c2X cjX k1 k2 k3 k4 i0 i1 i2 HC;rename_i Q' K hK;have HK:=hE hK;clear hK;go_wp2_with ((refine wpList_store_row rfl _ _ _ rfl w.heap.size #[.string (bs [108,105,110,101]),.slice (some ⟨w.heap.size+1,0,none⟩) 3 3,.slice Ax 3 cx,.slice (some ⟨wr.heap.size,0,none⟩) 2 2,.slice (some ⟨w.heap.size+1+1,0,none⟩) 2 2,.slice none 0 0] rfl rfl 28 #[.string (ByteArray.mk #[]),.slice none 0 0,.slice none 0 0,.slice none 0 0,.slice none 0 0,.slice none 0 0] HZ.out (by kernel_rfl) rfl (by simp[Value.oneCell']) ?_))
   rw[←HWX.out];clear ld1;refine HK.out _ _ ?_;have ldp:Sem.run Tryz.prog (loadCellsFrom ⟨w.heap.size,0,none⟩ 0 6 #[]) WX=.ok #[.string (bs [108,105,110,101]),.slice (some ⟨w.heap.size+1,0,none⟩) 3 3,.slice Ax 3 cx,.slice (some ⟨wr.heap.size,0,none⟩) 2 2,.slice (some ⟨w.heap.size+1+1,0,none⟩) 2 2,.slice none 0 0] WX:=by rw[HWX.out];exact z04 HP.out 6 rfl
   have pl:w.heap.size < WX.heap.size:=by rw[HWX.out];exact HP.out.lt
   refine wp_ret ?_;refine bodyPost_ret (v:=.agg #[.string (bs [108,105,110,101]),.slice (some ⟨w.heap.size+1,0,none⟩) 3 3,.slice Ax 3 cx,.slice (some ⟨wr.heap.size,0,none⟩) 2 2,.slice (some ⟨w.heap.size+1+1,0,none⟩) 2 2,.slice none 0 0]) (by simp[results,Tryz.results19,go_sem,ldp,pl]) rfl ?_;exact ⟨_,rfl,rfl,HV.out,HBX.out⟩
end Go.Proofs.YtpenlfedkacglaaGreatDoor
