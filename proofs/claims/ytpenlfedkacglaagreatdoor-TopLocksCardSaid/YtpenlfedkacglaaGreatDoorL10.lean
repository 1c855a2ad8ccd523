import Derived.Test.YtpenlfedkacglaaGreatDoorL09
set_option maxRecDepth 100000
set_option maxHeartbeats 40000000
set_option linter.all false
namespace Go.Proofs.YtpenlfedkacglaaGreatDoor
open Go.RowKit
attribute [local go_sem] z05 z07 z01 z02
attribute [-go_sem] run_equalIn_agg
def y7v:Option z0o→Value
 | some e=>.agg #[.int .i64 e.el,.int .i64 e.sd]
 | none=>.agg #[.int .i64 (-1),.int .i64 0]
def j9o (l:Lay) (path:List Stp):List (List Stp):=match z4v l path with | some _=>[] | none=>[path]
theorem x5g:(Tryz.prog.info? 52).map (fun i=>(i.zero,i.size,i.bytes))=some (some (.slice none 0 0),1,24):=by kernel_rfl
theorem y49 (W:World) (v:LV) (gf B:Nat) (ps:List (List Stp)) (path:List Stp) (A:Option Addr) (cap:Nat) (w:World) (hf:z1y w gf B v ps) (hr:LvR W v) (hb:Below W.heap.size W w) (hWs:W.heap.size≤gf) (hA:∀ a,A=some a→a.spot=none) (hw:RdS z1h w (Lt w) A path) (h0:0 < path.length) (hl:path.length≤1000) (hps:ps.length≤90000) :
  Calls Tryz.prog 120 #[.pointer (some ⟨gf,0,none⟩),.slice A path.length cap] w fun e w'=>e=.returned (y7v (z4v v.l path))∧(∀ e,z4v v.l path=some e→z1y w' gf B v ps)∧(z4v v.l path=none→z1y w' gf w'.heap.size v (ps++[path]))∧FrF gf w.heap.size w w':=by
 obtain ⟨i0,hi,hy0,hy1,hy2⟩:=info_parts x5g;obtain ⟨W1,hW1⟩:∃ W1,W1=w.alloc (.cells #[.int .i64 0,.int .i64 0] 90):=⟨_,rfl⟩
 have hal:Below w.heap.size w W1:=by rw[hW1];exact bQ.alloc nL _
 have hz1:Blk W1 w.heap.size 90 #[.int .i64 0,.int .i64 0]:=by rw[hW1];exact Blk.new _ _ _ _ rfl
 have hb1:=z00 hb hb.size hal;have hr1:=hr.now hb1;have hw1:=hw.now hal;have hgw:=hf.lt;obtain ⟨pv,hfd,hlow,hBw⟩:=hf.now hal;obtain ⟨x0,x1,x2,x3,x4,x5,-⟩:=hfd.x;have lgf3:=Blk.lt hfd;obtain ⟨z,hz⟩:∃ z,y4j v.l (z3h path)=z:=⟨_,rfl⟩
 have HL:=hE (y8u path A cap (W1.drew) (hw1.now bQ.drew) h0 (by omega));have HSG:Hid (∀ W',LvR W' v→Calls Tryz.prog 118 #[.agg (z1c v),.agg #[.int .i64 (z3h path).el,.int .i64 (z3h path).sd]] W' fun e w'=>e=.returned (.int .i64 z)∧Below W'.heap.size W' w'):=hE fun W' h=>hz▸z6k v (z3h path) W' h
 have HPZ:Hid (z4v v.l path=if z < 0 then z7m v.l (path.getLastD zP) else none):=hE (by unfold z4v;rw[hz]);have HPL:Hid (∀ r,z4v v.l path=r→j9o v.l path=(match r with | some _=>[] | none=>[path])):=hE fun r h=>by unfold j9o;rw[h]
 obtain ⟨m,hm⟩:∃ m,path.length=m+1:=⟨path.length - 1,by omega⟩
 have hlast:path.getLastD zP=path[m]'(by omega):=by rw[y8t h0];congr 1;omega
 obtain ⟨b,off,hAe,lb,ho,y0,y1,y2⟩:=hw1.elT (show m < path.length by omega);rw[hlast] at HPZ;have HNX:=hE fun W' h=>next_any v (path[m]'(by omega)) W' h
 have HCL:Hid (∀ W',Below W1.heap.size W1 W'→Calls Tryz.prog 34 #[.slice A (m+1) cap] W' fun e w'=>∃ v,e=.returned v∧z09 z1h w' W'.heap.size 85 v path 0∧Below W'.heap.size W' w'):=hE fun W' h=>by have:=z5n path A cap W' hA (hw1.now h) (by omega);rw[hm] at this;exact this
 rw[hAe] at HL HCL;have lb1:b < W1.heap.size:=lb;rw[hAe,hm];rw[hm] at HL;have hwk:IntKind.i64.wrap (m:Int)=(m:Int):=IntWalk.i64_in _ (by omega);have HW1:=hE hW1;clear hlast hAe ho lb hw hA h0 hl hz hf hw1 hW1;generalize z3h path=lp at *;generalize (path[m]'(by omega))=s at *;obtain ⟨sel,sin,sout⟩:=s;dsimp only at *;obtain ⟨r,hr2⟩:∃ r,z7m v.l ⟨sel,sin,sout⟩=r:=⟨_,rfl⟩
 rw[hr2] at HPZ HNX;clear hr2;have HSS:Hid (∀ W,Below W1.heap.size W1 W→(fun w'=>w'.cell? ⟨gf,0,none⟩=some (.string (bs v.l.name))∧w'.cell? ⟨gf,1,none⟩=some (.slice v.A1 v.l.secs.length v.c1)∧w'.cell? ⟨gf,2,none⟩=some (.slice v.A2 v.l.els.length v.c2)∧w'.cell? ⟨gf,3,none⟩=some (.slice v.A3 v.l.jts.length v.c3)∧w'.cell? ⟨gf,4,none⟩=some (.slice v.A4 v.l.sgs.length v.c4)∧w'.cell? ⟨gf,5,none⟩=some (.slice v.A5 v.l.bls.length v.c5)∧w'.cell? ⟨b,off+m*3,none⟩=some (.int .i64 sel)∧w'.cell? ⟨b,off+m*3+1,none⟩=some (.int .i64 sin)∧w'.cell? ⟨b,off+m*3+2,none⟩=some (.int .i64 sout)∧Below W1.heap.size W1 w') W):=hE fun W h=>⟨(h.cell (p:=⟨gf,0,none⟩) lgf3).trans x0,(h.cell (p:=⟨gf,1,none⟩) lgf3).trans x1,(h.cell (p:=⟨gf,2,none⟩) lgf3).trans x2,(h.cell (p:=⟨gf,3,none⟩) lgf3).trans x3,(h.cell (p:=⟨gf,4,none⟩) lgf3).trans x4,(h.cell (p:=⟨gf,5,none⟩) lgf3).trans x5,(h.cell (p:=⟨b,off+m*3,none⟩) lb1).trans y0,(h.cell (p:=⟨b,off+m*3+1,none⟩) lb1).trans y1,(h.cell (p:=⟨b,off+m*3+2,none⟩) lb1).trans y2,h⟩
 clear x0 x1 x2 x3 x4 x5 y0 y1 y2;go_enter Tryz.func120,Tryz.ntmps120
 go_wp2_with fail;rw[←HW1.out];refine rgS 8 HSS fun hHeld=>?_
 refine tkM 5 [0,1,2,3,4] ?_;refine rd1 5 rfl fun K hK=>?_
 go_simp;go_at_call 121
 refine (HL.out).mono ?_;rintro e wq ⟨rfl,hqq⟩;have hbq:Below W1.heap.size W1 wq:=bQ.drew.trans hqq;go_wp2_with fail
 refine hK.out _ _ (HSS.out _ hbq) (fun hHeld=>?_);clear hK K;try simp only[Act.put,lsa,lsz,lss]
 refine rd1 6 rfl fun K hK=>?_
 go_simp;go_at_call 118
 refine (HSG.out _ (hr1.now hbq)).mono ?_;rintro e w2 ⟨rfl,hq2⟩;have hb2:Below W1.heap.size W1 w2:=z00 hbq hbq.size hq2;go_wp2_with fail
 refine hK.out _ _ (HSS.out _ hb2) (fun hHeld=>?_);clear hK K;try simp only[Act.put,lsa,lsz,lss]
 refine tkM 1 [7] ?_;refine wdn ?_;clear hqq hq2 hbq HL HSG hHeld;by_cases hzn:z < 0;case neg=>
  have t1:decide (z < 0)=false:=by simpa using hzn
  have HPF:Hid (z4v v.l path=none):=hE (by rw[HPZ.out,if_neg hzn]);go_wp2_with fail
  have hlow5:=z3o hlow hBw hb2;have hfd5:FdB w2 gf v pv:=Blk.now hfd hb2;have hz5:=hz1.now hb2;have HCL5:=hE (fun W' h=>HCL.out W' (z00 hb2 hb2.size h));obtain ⟨-,-,-,-,-,-,x6⟩:=hfd5.x;have lgf5:=Blk.lt hfd5;clear HPL HPZ HNX HSS HCL;refine rgH 12 (S:=(fun _=>True)) (trivial) fun hHeld=>?_
  refine tkM 5 [0,1,2,3,5] ?_;refine rd2 4 6 rfl rfl (fun K hK=>?_) fun K hK=>?_
  focus
   go_simp;refine hK.out _ _ trivial (fun hHeld=>?_);clear hK K;try simp only[Act.put,lsa,lsz,lss]
   refine rd1 6 rfl fun K hK=>?_
   go_simp;go_at_call 34
   refine (HCL5.out _ bQ.drew).mono ?_;rintro e wq ⟨cv,rfl,hcl,hqc⟩;obtain ⟨ca,cc,rfl⟩:=hcl.form;rw[hm] at hcl ⊢;have hqb:Below w2.heap.size w2 wq:=bQ.drew.trans hqc;go_wp2_with fail
   refine hK.out _ _ trivial (fun hHeld=>?_);clear hK K;try simp only[Act.put,lsa,lsz,lss]
   refine rd1 7 rfl fun K hK=>?_
   go_simp;refine hK.out _ _ trivial (fun hHeld=>?_);clear hK K;try simp only[Act.put,lsa,lsz,lss]
   have h56:Below w2.heap.size w2 (wq.alloc (.cells #[.slice ca (m+1) cc] 52)):=hqb.alloc hqb.size _;have hlow6:=z3o hlow5 nL h56;have hfd6:FdB (wq.alloc (.cells #[.slice ca (m+1) cc] 52)) gf v pv:=Blk.now hfd5 h56;have hz6:=hz5.now h56;have hbx6:Blk (wq.alloc (.cells #[.slice ca (m+1) cc] 52)) wq.heap.size 52 #[.slice ca (m+1) cc]:=Blk.new _ _ _ _ rfl;have hcl6:=hcl.alloc (.cells #[.slice ca (m+1) cc] 52);have hrd6:(cL z1h).rd (wq.alloc (.cells #[.slice ca (m+1) cc] 52)) (InP (wq.alloc (.cells #[.slice ca (m+1) cc] 52)) gf ((wq.alloc (.cells #[.slice ca (m+1) cc] 52))).heap.size) [.slice ca (m+1) cc] path:=by
    obtain ⟨A',cap',he,hn,hx⟩:=hcl6.rds (S:=InP (wq.alloc (.cells #[.slice ca (m+1) cc] 52)) gf ((wq.alloc (.cells #[.slice ca (m+1) cc] 52))).heap.size) (fun b cs hh hb'=>⟨by have:=hqb.size;simp only[World.drew] at hb';omega,z0j hh,cs,hh⟩) (fun b hb=>absurd hb.1 (Nat.not_lt_zero _));simp only[Value.slice.injEq] at he;obtain ⟨rfl,-,rfl⟩:=he;exact ⟨ca,cc,by rw[hm],hn,hx⟩
   refine rd1 8 rfl fun K hK=>?_
   refine z0b (c:=cL z1h) rfl _ _ 139 rfl (gf+1) 52 i0 _ 24 Tryz.underlying139 hi hy0 hy1 hy2 rfl (by decide) (InP (wq.alloc (.cells #[.slice ca (m+1) cc] 52)) gf ((wq.alloc (.cells #[.slice ca (m+1) cc] 52))).heap.size) pv ps rfl hlow6 (z2p hlow6 nL) [.slice ca (m+1) cc] path hrd6 (fun u hu=>by (simp at hu;subst hu;rfl)) ⟨wq.heap.size,0,none⟩ 1 rfl (fun j u hj=>by (rw[z0g];exact z0f hbx6 j u hj)) (by omega) (by omega) ?_;intro pv' w7 hl7 hf7 hg7;obtain ⟨pa,pc,hpv⟩:=hl7.form;generalize (ps++[path]).length=pk at hpv;subst hpv;refine hK.out _ _ trivial (fun hHeld=>?_);clear hK K;try simp only[Act.put,lsa,lsz,lss]
   have hfd7:FdB w7 gf v pv:=hf7.blk hfd6 (by decide);obtain ⟨-,-,-,-,-,-,u6⟩:=hfd7.x;have uf:=Blk.free hfd7;refine tkM 2 [9,10] ?_;refine rd1 11 rfl fun K hK=>?_
   go_simp;refine hK.out _ _ trivial (fun hHeld=>?_);clear hK K;try simp only[Act.put,lsa,lsz,lss]
   refine wdn ?_;obtain ⟨hk8,hr8⟩:=z1y.put hfd6 hl7 hf7;have hz8:Blk (w7.setCell ⟨gf,6,none⟩ (.slice pa pk pc)) w.heap.size 90 #[.int .i64 0,.int .i64 0]:=by
    have h7:=hf7.blk hz6 (by decide);exact (Below.heap_setCell _ _ _ _ (show w.heap.size≠gf by omega)).trans h7
   have hfr:FrF gf w.heap.size w (w7.setCell ⟨gf,6,none⟩ (.slice pa pk pc)):=((FrF.of_below hal).trans ((FrF.of_below hb2).trans (FrF.of_below h56))).trans (hr8.less (nR hal.size (nR hb2.size h56.size)));clear hl7 hf7 hg7 hfd7 u6 uf hz6 hz5 hz1 hfd6 hfd5 hlow6 hlow5 hbx6 hcl6 hrd6 hcl hqc HCL5;obtain ⟨w8,hw8⟩:∃ w8,w8=w7.setCell ⟨gf,6,none⟩ (.slice pa pk pc):=⟨_,rfl⟩
   rw[←hw8] at hk8 hz8 hfr ⊢;have q0:=hz8.cell 0;have q1:=hz8.cell 1;have qf:=hz8.free;have lz8:=hz8.lt;simp only[gqA,gqZ,gqS] at q0 q1;clear hw8 h56 hqb;go_wp2_with fail
   have hk9:=(z1y.set (j:=1) (u:=.int .i64 0) (z1y.set (j:=0) (u:=.int .i64 (-1)) hk8 hz8 (by decide) (by decide) (by decide)) (hz8.set 0 _) (by decide) (by decide) (by decide))
   have hz9:=(hz8.set 0 (.int .i64 (-1))).set 1 (.int .i64 0);have hf9:=(hfr.set (j:=0) (u:=.int .i64 (-1)) nL hgw).set (j:=1) (u:=.int .i64 0) nL hgw;have p0:=hz9.cell 0;have p1:=hz9.cell 1;have lz9:=hz9.lt;simp only[gqA,gqZ,gqS,lsz,lss,lsa] at p0 p1;exact bodyPost_ret (v:=.agg #[.int .i64 (-1),.int .i64 0]) (by simp[results,Tryz.results120,go_sem,p0,p1,lz9]) rfl ⟨by rw[HPF.out];rfl,fun e h=>(by rw[HPF.out] at h;cases h),fun _=>hk9.raise (by simp[World.setCell]) nL,hf9⟩
  focus
   go_simp;go_at_call 34
   refine (HCL5.out _ bQ.drew).mono ?_;rintro e wq ⟨cv,rfl,hcl,hqc⟩;obtain ⟨ca,cc,rfl⟩:=hcl.form;rw[hm] at hcl ⊢;have hqb:Below w2.heap.size w2 wq:=bQ.drew.trans hqc;go_wp2_with fail
   refine hK.out _ _ trivial (fun hHeld=>?_);clear hK K;try simp only[Act.put,lsa,lsz,lss]
   have x6q:=(hqb.cell (p:=⟨gf,6,none⟩) lgf5).trans x6;refine rd2 4 7 rfl rfl (fun K hK=>?_) fun K hK=>?_
   focus
    go_simp;refine hK.out _ _ trivial (fun hHeld=>?_);clear hK K;try simp only[Act.put,lsa,lsz,lss]
    refine rd1 7 rfl fun K hK=>?_
    go_simp;refine hK.out _ _ trivial (fun hHeld=>?_);clear hK K;try simp only[Act.put,lsa,lsz,lss]
    have h56:Below w2.heap.size w2 (wq.alloc (.cells #[.slice ca (m+1) cc] 52)):=hqb.alloc hqb.size _;have hlow6:=z3o hlow5 nL h56;have hfd6:FdB (wq.alloc (.cells #[.slice ca (m+1) cc] 52)) gf v pv:=Blk.now hfd5 h56;have hz6:=hz5.now h56;have hbx6:Blk (wq.alloc (.cells #[.slice ca (m+1) cc] 52)) wq.heap.size 52 #[.slice ca (m+1) cc]:=Blk.new _ _ _ _ rfl;have hcl6:=hcl.alloc (.cells #[.slice ca (m+1) cc] 52);have hrd6:(cL z1h).rd (wq.alloc (.cells #[.slice ca (m+1) cc] 52)) (InP (wq.alloc (.cells #[.slice ca (m+1) cc] 52)) gf ((wq.alloc (.cells #[.slice ca (m+1) cc] 52))).heap.size) [.slice ca (m+1) cc] path:=by
     obtain ⟨A',cap',he,hn,hx⟩:=hcl6.rds (S:=InP (wq.alloc (.cells #[.slice ca (m+1) cc] 52)) gf ((wq.alloc (.cells #[.slice ca (m+1) cc] 52))).heap.size) (fun b cs hh hb'=>⟨by have:=hqb.size;simp only[World.drew] at hb';omega,z0j hh,cs,hh⟩) (fun b hb=>absurd hb.1 (Nat.not_lt_zero _));simp only[Value.slice.injEq] at he;obtain ⟨rfl,-,rfl⟩:=he;exact ⟨ca,cc,by rw[hm],hn,hx⟩
    refine rd1 8 rfl fun K hK=>?_
    refine z0b (c:=cL z1h) rfl _ _ 139 rfl (gf+1) 52 i0 _ 24 Tryz.underlying139 hi hy0 hy1 hy2 rfl (by decide) (InP (wq.alloc (.cells #[.slice ca (m+1) cc] 52)) gf ((wq.alloc (.cells #[.slice ca (m+1) cc] 52))).heap.size) pv ps rfl hlow6 (z2p hlow6 nL) [.slice ca (m+1) cc] path hrd6 (fun u hu=>by (simp at hu;subst hu;rfl)) ⟨wq.heap.size,0,none⟩ 1 rfl (fun j u hj=>by (rw[z0g];exact z0f hbx6 j u hj)) (by omega) (by omega) ?_;intro pv' w7 hl7 hf7 hg7;obtain ⟨pa,pc,hpv⟩:=hl7.form;generalize (ps++[path]).length=pk at hpv;subst hpv;refine hK.out _ _ trivial (fun hHeld=>?_);clear hK K;try simp only[Act.put,lsa,lsz,lss]
    have hfd7:FdB w7 gf v pv:=hf7.blk hfd6 (by decide);obtain ⟨-,-,-,-,-,-,u6⟩:=hfd7.x;have uf:=Blk.free hfd7;refine tkM 2 [9,10] ?_;refine rd1 11 rfl fun K hK=>?_
    go_simp;refine hK.out _ _ trivial (fun hHeld=>?_);clear hK K;try simp only[Act.put,lsa,lsz,lss]
    refine wdn ?_;obtain ⟨hk8,hr8⟩:=z1y.put hfd6 hl7 hf7;have hz8:Blk (w7.setCell ⟨gf,6,none⟩ (.slice pa pk pc)) w.heap.size 90 #[.int .i64 0,.int .i64 0]:=by
     have h7:=hf7.blk hz6 (by decide);exact (Below.heap_setCell _ _ _ _ (show w.heap.size≠gf by omega)).trans h7
    have hfr:FrF gf w.heap.size w (w7.setCell ⟨gf,6,none⟩ (.slice pa pk pc)):=((FrF.of_below hal).trans ((FrF.of_below hb2).trans (FrF.of_below h56))).trans (hr8.less (nR hal.size (nR hb2.size h56.size)));clear hl7 hf7 hg7 hfd7 u6 uf hz6 hz5 hz1 hfd6 hfd5 hlow6 hlow5 hbx6 hcl6 hrd6 hcl hqc HCL5;obtain ⟨w8,hw8⟩:∃ w8,w8=w7.setCell ⟨gf,6,none⟩ (.slice pa pk pc):=⟨_,rfl⟩
    rw[←hw8] at hk8 hz8 hfr ⊢;have q0:=hz8.cell 0;have q1:=hz8.cell 1;have qf:=hz8.free;have lz8:=hz8.lt;simp only[gqA,gqZ,gqS] at q0 q1;clear hw8 h56 hqb;go_wp2_with fail
    have hk9:=(z1y.set (j:=1) (u:=.int .i64 0) (z1y.set (j:=0) (u:=.int .i64 (-1)) hk8 hz8 (by decide) (by decide) (by decide)) (hz8.set 0 _) (by decide) (by decide) (by decide))
    have hz9:=(hz8.set 0 (.int .i64 (-1))).set 1 (.int .i64 0);have hf9:=(hfr.set (j:=0) (u:=.int .i64 (-1)) nL hgw).set (j:=1) (u:=.int .i64 0) nL hgw;have p0:=hz9.cell 0;have p1:=hz9.cell 1;have lz9:=hz9.lt;simp only[gqA,gqZ,gqS,lsz,lss,lsa] at p0 p1;exact bodyPost_ret (v:=.agg #[.int .i64 (-1),.int .i64 0]) (by simp[results,Tryz.results120,go_sem,p0,p1,lz9]) rfl ⟨by rw[HPF.out];rfl,fun e h=>(by rw[HPF.out] at h;cases h),fun _=>hk9.raise (by simp[World.setCell]) nL,hf9⟩
   focus
    go_simp;refine hK.out _ _ trivial (fun hHeld=>?_);clear hK K;try simp only[Act.put,lsa,lsz,lss]
    have x6r:=((hqb.alloc hqb.size (.cells #[.slice ca (m+1) cc] 52)).cell (p:=⟨gf,6,none⟩) lgf5).trans x6;refine rd1 4 rfl fun K hK=>?_
    go_simp;refine hK.out _ _ trivial (fun hHeld=>?_);clear hK K;try simp only[Act.put,lsa,lsz,lss]
    have h56:Below w2.heap.size w2 (wq.alloc (.cells #[.slice ca (m+1) cc] 52)):=hqb.alloc hqb.size _;have hlow6:=z3o hlow5 nL h56;have hfd6:FdB (wq.alloc (.cells #[.slice ca (m+1) cc] 52)) gf v pv:=Blk.now hfd5 h56;have hz6:=hz5.now h56;have hbx6:Blk (wq.alloc (.cells #[.slice ca (m+1) cc] 52)) wq.heap.size 52 #[.slice ca (m+1) cc]:=Blk.new _ _ _ _ rfl;have hcl6:=hcl.alloc (.cells #[.slice ca (m+1) cc] 52);have hrd6:(cL z1h).rd (wq.alloc (.cells #[.slice ca (m+1) cc] 52)) (InP (wq.alloc (.cells #[.slice ca (m+1) cc] 52)) gf ((wq.alloc (.cells #[.slice ca (m+1) cc] 52))).heap.size) [.slice ca (m+1) cc] path:=by
     obtain ⟨A',cap',he,hn,hx⟩:=hcl6.rds (S:=InP (wq.alloc (.cells #[.slice ca (m+1) cc] 52)) gf ((wq.alloc (.cells #[.slice ca (m+1) cc] 52))).heap.size) (fun b cs hh hb'=>⟨by have:=hqb.size;simp only[World.drew] at hb';omega,z0j hh,cs,hh⟩) (fun b hb=>absurd hb.1 (Nat.not_lt_zero _));simp only[Value.slice.injEq] at he;obtain ⟨rfl,-,rfl⟩:=he;exact ⟨ca,cc,by rw[hm],hn,hx⟩
    refine rd1 8 rfl fun K hK=>?_
    refine z0b (c:=cL z1h) rfl _ _ 139 rfl (gf+1) 52 i0 _ 24 Tryz.underlying139 hi hy0 hy1 hy2 rfl (by decide) (InP (wq.alloc (.cells #[.slice ca (m+1) cc] 52)) gf ((wq.alloc (.cells #[.slice ca (m+1) cc] 52))).heap.size) pv ps rfl hlow6 (z2p hlow6 nL) [.slice ca (m+1) cc] path hrd6 (fun u hu=>by (simp at hu;subst hu;rfl)) ⟨wq.heap.size,0,none⟩ 1 rfl (fun j u hj=>by (rw[z0g];exact z0f hbx6 j u hj)) (by omega) (by omega) ?_;intro pv' w7 hl7 hf7 hg7;obtain ⟨pa,pc,hpv⟩:=hl7.form;generalize (ps++[path]).length=pk at hpv;subst hpv;refine hK.out _ _ trivial (fun hHeld=>?_);clear hK K;try simp only[Act.put,lsa,lsz,lss]
    have hfd7:FdB w7 gf v pv:=hf7.blk hfd6 (by decide);obtain ⟨-,-,-,-,-,-,u6⟩:=hfd7.x;have uf:=Blk.free hfd7;refine tkM 2 [9,10] ?_;refine rd1 11 rfl fun K hK=>?_
    go_simp;refine hK.out _ _ trivial (fun hHeld=>?_);clear hK K;try simp only[Act.put,lsa,lsz,lss]
    refine wdn ?_;obtain ⟨hk8,hr8⟩:=z1y.put hfd6 hl7 hf7;have hz8:Blk (w7.setCell ⟨gf,6,none⟩ (.slice pa pk pc)) w.heap.size 90 #[.int .i64 0,.int .i64 0]:=by
     have h7:=hf7.blk hz6 (by decide);exact (Below.heap_setCell _ _ _ _ (show w.heap.size≠gf by omega)).trans h7
    have hfr:FrF gf w.heap.size w (w7.setCell ⟨gf,6,none⟩ (.slice pa pk pc)):=((FrF.of_below hal).trans ((FrF.of_below hb2).trans (FrF.of_below h56))).trans (hr8.less (nR hal.size (nR hb2.size h56.size)));clear hl7 hf7 hg7 hfd7 u6 uf hz6 hz5 hz1 hfd6 hfd5 hlow6 hlow5 hbx6 hcl6 hrd6 hcl hqc HCL5;obtain ⟨w8,hw8⟩:∃ w8,w8=w7.setCell ⟨gf,6,none⟩ (.slice pa pk pc):=⟨_,rfl⟩
    rw[←hw8] at hk8 hz8 hfr ⊢;have q0:=hz8.cell 0;have q1:=hz8.cell 1;have qf:=hz8.free;have lz8:=hz8.lt;simp only[gqA,gqZ,gqS] at q0 q1;clear hw8 h56 hqb;go_wp2_with fail
    have hk9:=(z1y.set (j:=1) (u:=.int .i64 0) (z1y.set (j:=0) (u:=.int .i64 (-1)) hk8 hz8 (by decide) (by decide) (by decide)) (hz8.set 0 _) (by decide) (by decide) (by decide))
    have hz9:=(hz8.set 0 (.int .i64 (-1))).set 1 (.int .i64 0);have hf9:=(hfr.set (j:=0) (u:=.int .i64 (-1)) nL hgw).set (j:=1) (u:=.int .i64 0) nL hgw;have p0:=hz9.cell 0;have p1:=hz9.cell 1;have lz9:=hz9.lt;simp only[gqA,gqZ,gqS,lsz,lss,lsa] at p0 p1;exact bodyPost_ret (v:=.agg #[.int .i64 (-1),.int .i64 0]) (by simp[results,Tryz.results120,go_sem,p0,p1,lz9]) rfl ⟨by rw[HPF.out];rfl,fun e h=>(by rw[HPF.out] at h;cases h),fun _=>hk9.raise (by simp[World.setCell]) nL,hf9⟩
 case pos=>
  have t1:decide (z < 0)=true:=by simpa using hzn
  have hr2:=hr1.now hb2;have hmlt:(m:Int) < (m:Int)+1:=by omega
  have hm0:(0:Int)≤(m:Int):=by omega
  go_wp2_with fail
  cases r with
  | some en=>
   obtain ⟨eel,esd⟩:=en;have HPF:Hid (z4v v.l path=some ⟨eel,esd⟩):=hE (by rw[HPZ.out,if_pos hzn]);refine rgR 17 HSS hb2.drew fun hHeld=>?_
   refine tkM 10 [0,1,2,3,4,5,6,7,8,9] ?_;refine rd2 10 14 rfl rfl (fun K hK=>?_) fun K hK=>?_
   focus
    go_simp;go_at_call 97
    refine (HNX.out _ (hr2.now bQ.drew)).mono ?_;rintro e wq ⟨rfl,hqq⟩;have hbq:Below W1.heap.size W1 wq:=z00 hb2 hb2.size (bQ.drew.trans hqq);simp only[z6w];go_wp2_with fail
    refine hK.out _ _ (HSS.out _ hbq) (fun hHeld=>?_);clear hK K;try simp only[Act.put,lsa,lsz,lss]
    refine tkM 3 [11,12,13] ?_;refine rd1 14 rfl fun K hK=>?_
    go_simp;refine hK.out _ _ (HSS.out _ (hbq.alloc hbq.size _)) (fun hHeld=>?_);clear hK K;try simp only[Act.put,lsa,lsz,lss]
    refine rd1 15 rfl fun K hK=>?_
    go_simp;refine hK.out _ _ (HSS.out _ (hbq.alloc hbq.size _)) (fun hHeld=>?_);clear hK K;try simp only[Act.put,lsa,lsz,lss]
    refine tkM 1 [16] ?_;refine wdn ?_;have hb5:Below W1.heap.size W1 (wq.alloc (.cells #[.int .i64 eel,.int .i64 esd] 90)):=hbq.alloc hbq.size _;have hx5:Blk (wq.alloc (.cells #[.int .i64 eel,.int .i64 esd] 90)) wq.heap.size 90 #[.int .i64 eel,.int .i64 esd]:=Blk.new _ _ _ _ rfl;clear hqq hHeld;obtain ⟨w5,hw5⟩:∃ w5,w5=(wq.alloc (.cells #[.int .i64 eel,.int .i64 esd] 90)):=⟨_,rfl⟩
    rw[←hw5] at hb5 hx5 ⊢;generalize wq.heap.size=g5 at *;clear hw5 hbq;have hz5:=hz1.now hb5;have hk5:=z1y.now ⟨pv,hfd,hlow,hBw⟩ hb5;have hfr:=(FrF.of_below (gf:=gf) (B:=w.heap.size) hal).trans (FrF.of_below hb5);have q0:=hz5.cell 0;have q1:=hz5.cell 1;have qf:=hz5.free;have lz5:=hz5.lt;have p0:=hx5.cell 0;have p1:=hx5.cell 1;simp only[gqA,gqZ,gqS] at q0 q1 p0 p1;go_wp2_with fail
    have hk9:=(z1y.set (j:=1) (u:=.int .i64 esd) (z1y.set (j:=0) (u:=.int .i64 eel) hk5 hz5 (by decide) (by decide) (by decide)) (hz5.set 0 _) (by decide) (by decide) (by decide))
    have hz9:=(hz5.set 0 (.int .i64 eel)).set 1 (.int .i64 esd);have hf9:=(hfr.set (j:=0) (u:=.int .i64 eel) nL hgw).set (j:=1) (u:=.int .i64 esd) nL hgw;have r0:=hz9.cell 0;have r1:=hz9.cell 1;have lz9:=hz9.lt;simp only[gqA,gqZ,gqS,lsz,lss,lsa] at r0 r1;exact bodyPost_ret (v:=.agg #[.int .i64 eel,.int .i64 esd]) (by simp[results,Tryz.results120,go_sem,r0,r1,lz9]) rfl ⟨by rw[HPF.out];rfl,fun _ _=>hk9,fun h=>(by rw[HPF.out] at h;cases h),hf9⟩
   focus
    go_simp;refine hK.out _ _ (HSS.out _ (hb2.alloc hb2.size _).drew) (fun hHeld=>?_);clear hK K;try simp only[Act.put,lsa,lsz,lss]
    refine rd1 10 rfl fun K hK=>?_
    go_simp;go_at_call 97
    have hal9:Below w2.heap.size w2 ((w2.alloc (.cells #[.int .i64 0,.int .i64 0] 90)).drew):=(bQ.alloc nL _).drew;have hbz9:Blk ((w2.alloc (.cells #[.int .i64 0,.int .i64 0] 90)).drew) w2.heap.size 90 #[.int .i64 0,.int .i64 0]:=(Blk.new _ _ _ _ rfl).drew;refine (HNX.out _ (hr2.now hal9)).mono ?_;rintro e wq ⟨rfl,hqq⟩;have hbz:=hbz9.now hqq;have hbq:Below W1.heap.size W1 wq:=z00 (z00 hb2 hb2.size hal9) (nR hb2.size hal9.size) hqq;simp only[z6w];go_wp2_with fail
    refine hK.out _ _ (HSS.out _ hbq) (fun hHeld=>?_);clear hK K;try simp only[Act.put,lsa,lsz,lss]
    refine tkM 3 [11,12,13] ?_;have u0:=hbz.cell 0;have u1:=hbz.cell 1;simp only[gqA,gqZ,gqS] at u0 u1;have uf:=hbz.free;have hb5:Below W1.heap.size W1 ((wq.setCell ⟨w2.heap.size,0,none⟩ (.int .i64 eel)).setCell ⟨w2.heap.size,1,none⟩ (.int .i64 esd)):=(hbq.setCell (p:=⟨w2.heap.size,0,none⟩) hb2.size _).setCell (p:=⟨w2.heap.size,1,none⟩) hb2.size _;have hx5:Blk ((wq.setCell ⟨w2.heap.size,0,none⟩ (.int .i64 eel)).setCell ⟨w2.heap.size,1,none⟩ (.int .i64 esd)) w2.heap.size 90 #[.int .i64 eel,.int .i64 esd]:=(hbz.set 0 _).set 1 _;refine rd1 15 rfl fun K hK=>?_
    go_simp;refine hK.out _ _ (HSS.out _ hb5) (fun hHeld=>?_);clear hK K;try simp only[Act.put,lsa,lsz,lss]
    refine tkM 1 [16] ?_;refine wdn ?_;clear hqq hHeld u0 u1 uf hbz hbz9 hal9;obtain ⟨w5,hw5⟩:∃ w5,w5=((wq.setCell ⟨w2.heap.size,0,none⟩ (.int .i64 eel)).setCell ⟨w2.heap.size,1,none⟩ (.int .i64 esd)):=⟨_,rfl⟩
    rw[←hw5] at hb5 hx5 ⊢;generalize w2.heap.size=g5 at *;clear hw5 hbq;have hz5:=hz1.now hb5;have hk5:=z1y.now ⟨pv,hfd,hlow,hBw⟩ hb5;have hfr:=(FrF.of_below (gf:=gf) (B:=w.heap.size) hal).trans (FrF.of_below hb5);have q0:=hz5.cell 0;have q1:=hz5.cell 1;have qf:=hz5.free;have lz5:=hz5.lt;have p0:=hx5.cell 0;have p1:=hx5.cell 1;simp only[gqA,gqZ,gqS] at q0 q1 p0 p1;go_wp2_with fail
    have hk9:=(z1y.set (j:=1) (u:=.int .i64 esd) (z1y.set (j:=0) (u:=.int .i64 eel) hk5 hz5 (by decide) (by decide) (by decide)) (hz5.set 0 _) (by decide) (by decide) (by decide))
    have hz9:=(hz5.set 0 (.int .i64 eel)).set 1 (.int .i64 esd);have hf9:=(hfr.set (j:=0) (u:=.int .i64 eel) nL hgw).set (j:=1) (u:=.int .i64 esd) nL hgw;have r0:=hz9.cell 0;have r1:=hz9.cell 1;have lz9:=hz9.lt;simp only[gqA,gqZ,gqS,lsz,lss,lsa] at r0 r1
    exact bodyPost_ret (v:=.agg #[.int .i64 eel,.int .i64 esd]) (by simp[results,Tryz.results120,go_sem,r0,r1,lz9]) rfl ⟨by rw[HPF.out];rfl,fun _ _=>hk9,fun h=>(by rw[HPF.out] at h;cases h),hf9⟩
  | none=>
   have HPF:Hid (z4v v.l path=none):=hE (by rw[HPZ.out,if_pos hzn]);refine rgR 17 HSS hb2.drew fun hHeld=>?_
   refine tkM 10 [0,1,2,3,4,5,6,7,8,9] ?_;refine rd2 10 14 rfl rfl (fun K hK=>?_) fun K hK=>?_
   focus
    go_simp;go_at_call 97
    refine (HNX.out _ (hr2.now bQ.drew)).mono ?_;rintro e wq ⟨rfl,hqq⟩;have hbq:Below W1.heap.size W1 wq:=z00 hb2 hb2.size (bQ.drew.trans hqq);simp only[z6w];go_wp2_with fail
    refine hK.out _ _ (HSS.out _ hbq) (fun hHeld=>?_);clear hK K;try simp only[Act.put,lsa,lsz,lss]
    refine tkM 3 [11,12,13] ?_;refine rd1 14 rfl fun K hK=>?_
    go_simp;refine hK.out _ _ (HSS.out _ (hbq.alloc hbq.size _)) (fun hHeld=>?_);clear hK K;try simp only[Act.put,lsa,lsz,lss]
    refine rd1 15 rfl fun K hK=>?_
    go_simp;refine hK.out _ _ (HSS.out _ (hbq.alloc hbq.size _)) (fun hHeld=>?_);clear hK K;try simp only[Act.put,lsa,lsz,lss]
    refine tkM 1 [16] ?_;refine wdn ?_;have hb5:Below W1.heap.size W1 (wq.alloc (.cells #[.int .i64 0,.int .i64 0] 90)):=hbq.alloc hbq.size _;have hx5:Blk (wq.alloc (.cells #[.int .i64 0,.int .i64 0] 90)) wq.heap.size 90 #[.int .i64 0,.int .i64 0]:=Blk.new _ _ _ _ rfl;clear hqq hHeld;obtain ⟨w5,hw5⟩:∃ w5,w5=(wq.alloc (.cells #[.int .i64 0,.int .i64 0] 90)):=⟨_,rfl⟩
    rw[←hw5] at hb5 hx5 ⊢;generalize wq.heap.size=g5 at *;clear hw5 hbq;go_wp2_with fail
    have hlow5:=z3o hlow hBw hb5;have hfd5:FdB w5 gf v pv:=Blk.now hfd hb5;have hz5:=hz1.now hb5;have HCL5:=hE (fun W' h=>HCL.out W' (z00 hb5 hb5.size h));obtain ⟨-,-,-,-,-,-,x6⟩:=hfd5.x;have lgf5:=Blk.lt hfd5;clear HPL HPZ HNX HSS HCL;refine rgH 12 (S:=(fun _=>True)) (trivial) fun hHeld=>?_
    refine tkM 5 [0,1,2,3,5] ?_;refine rd2 4 6 rfl rfl (fun K hK=>?_) fun K hK=>?_
    focus
     go_simp;refine hK.out _ _ trivial (fun hHeld=>?_);clear hK K;try simp only[Act.put,lsa,lsz,lss]
     refine rd1 6 rfl fun K hK=>?_
     go_simp;go_at_call 34
     refine (HCL5.out _ bQ.drew).mono ?_;rintro e wq ⟨cv,rfl,hcl,hqc⟩;obtain ⟨ca,cc,rfl⟩:=hcl.form;rw[hm] at hcl ⊢;have hqb:Below w5.heap.size w5 wq:=bQ.drew.trans hqc;go_wp2_with fail
     refine hK.out _ _ trivial (fun hHeld=>?_);clear hK K;try simp only[Act.put,lsa,lsz,lss]
     refine rd1 7 rfl fun K hK=>?_
     go_simp;refine hK.out _ _ trivial (fun hHeld=>?_);clear hK K;try simp only[Act.put,lsa,lsz,lss]
     have h56:Below w5.heap.size w5 (wq.alloc (.cells #[.slice ca (m+1) cc] 52)):=hqb.alloc hqb.size _;have hlow6:=z3o hlow5 nL h56;have hfd6:FdB (wq.alloc (.cells #[.slice ca (m+1) cc] 52)) gf v pv:=Blk.now hfd5 h56;have hz6:=hz5.now h56;have hbx6:Blk (wq.alloc (.cells #[.slice ca (m+1) cc] 52)) wq.heap.size 52 #[.slice ca (m+1) cc]:=Blk.new _ _ _ _ rfl;have hcl6:=hcl.alloc (.cells #[.slice ca (m+1) cc] 52);have hrd6:(cL z1h).rd (wq.alloc (.cells #[.slice ca (m+1) cc] 52)) (InP (wq.alloc (.cells #[.slice ca (m+1) cc] 52)) gf ((wq.alloc (.cells #[.slice ca (m+1) cc] 52))).heap.size) [.slice ca (m+1) cc] path:=by
      obtain ⟨A',cap',he,hn,hx⟩:=hcl6.rds (S:=InP (wq.alloc (.cells #[.slice ca (m+1) cc] 52)) gf ((wq.alloc (.cells #[.slice ca (m+1) cc] 52))).heap.size) (fun b cs hh hb'=>⟨by have:=hqb.size;simp only[World.drew] at hb';omega,z0j hh,cs,hh⟩) (fun b hb=>absurd hb.1 (Nat.not_lt_zero _));simp only[Value.slice.injEq] at he;obtain ⟨rfl,-,rfl⟩:=he;exact ⟨ca,cc,by rw[hm],hn,hx⟩
     refine rd1 8 rfl fun K hK=>?_
     refine z0b (c:=cL z1h) rfl _ _ 139 rfl (gf+1) 52 i0 _ 24 Tryz.underlying139 hi hy0 hy1 hy2 rfl (by decide) (InP (wq.alloc (.cells #[.slice ca (m+1) cc] 52)) gf ((wq.alloc (.cells #[.slice ca (m+1) cc] 52))).heap.size) pv ps rfl hlow6 (z2p hlow6 nL) [.slice ca (m+1) cc] path hrd6 (fun u hu=>by (simp at hu;subst hu;rfl)) ⟨wq.heap.size,0,none⟩ 1 rfl (fun j u hj=>by (rw[z0g];exact z0f hbx6 j u hj)) (by omega) (by omega) ?_;intro pv' w7 hl7 hf7 hg7;obtain ⟨pa,pc,hpv⟩:=hl7.form;generalize (ps++[path]).length=pk at hpv;subst hpv;refine hK.out _ _ trivial (fun hHeld=>?_);clear hK K;try simp only[Act.put,lsa,lsz,lss]
     have hfd7:FdB w7 gf v pv:=hf7.blk hfd6 (by decide);obtain ⟨-,-,-,-,-,-,u6⟩:=hfd7.x;have uf:=Blk.free hfd7;refine tkM 2 [9,10] ?_;refine rd1 11 rfl fun K hK=>?_
     go_simp;refine hK.out _ _ trivial (fun hHeld=>?_);clear hK K;try simp only[Act.put,lsa,lsz,lss]
     refine wdn ?_;obtain ⟨hk8,hr8⟩:=z1y.put hfd6 hl7 hf7;have hz8:Blk (w7.setCell ⟨gf,6,none⟩ (.slice pa pk pc)) w.heap.size 90 #[.int .i64 0,.int .i64 0]:=by
      have h7:=hf7.blk hz6 (by decide);exact (Below.heap_setCell _ _ _ _ (show w.heap.size≠gf by omega)).trans h7
     have hfr:FrF gf w.heap.size w (w7.setCell ⟨gf,6,none⟩ (.slice pa pk pc)):=((FrF.of_below hal).trans ((FrF.of_below hb5).trans (FrF.of_below h56))).trans (hr8.less (nR hal.size (nR hb5.size h56.size)));clear hl7 hf7 hg7 hfd7 u6 uf hz6 hz5 hz1 hfd6 hfd5 hlow6 hlow5 hbx6 hcl6 hrd6 hcl hqc HCL5;obtain ⟨w8,hw8⟩:∃ w8,w8=w7.setCell ⟨gf,6,none⟩ (.slice pa pk pc):=⟨_,rfl⟩
     rw[←hw8] at hk8 hz8 hfr ⊢;have q0:=hz8.cell 0;have q1:=hz8.cell 1;have qf:=hz8.free;have lz8:=hz8.lt;simp only[gqA,gqZ,gqS] at q0 q1;clear hw8 h56 hqb;go_wp2_with fail
     have hk9:=(z1y.set (j:=1) (u:=.int .i64 0) (z1y.set (j:=0) (u:=.int .i64 (-1)) hk8 hz8 (by decide) (by decide) (by decide)) (hz8.set 0 _) (by decide) (by decide) (by decide))
     have hz9:=(hz8.set 0 (.int .i64 (-1))).set 1 (.int .i64 0);have hf9:=(hfr.set (j:=0) (u:=.int .i64 (-1)) nL hgw).set (j:=1) (u:=.int .i64 0) nL hgw;have p0:=hz9.cell 0;have p1:=hz9.cell 1;have lz9:=hz9.lt;simp only[gqA,gqZ,gqS,lsz,lss,lsa] at p0 p1;exact bodyPost_ret (v:=.agg #[.int .i64 (-1),.int .i64 0]) (by simp[results,Tryz.results120,go_sem,p0,p1,lz9]) rfl ⟨by rw[HPF.out];rfl,fun e h=>(by rw[HPF.out] at h;cases h),fun _=>hk9.raise (by simp[World.setCell]) nL,hf9⟩
    focus
     go_simp;go_at_call 34
     refine (HCL5.out _ bQ.drew).mono ?_;rintro e wq ⟨cv,rfl,hcl,hqc⟩;obtain ⟨ca,cc,rfl⟩:=hcl.form;rw[hm] at hcl ⊢;have hqb:Below w5.heap.size w5 wq:=bQ.drew.trans hqc;go_wp2_with fail
     refine hK.out _ _ trivial (fun hHeld=>?_);clear hK K;try simp only[Act.put,lsa,lsz,lss]
     have x6q:=(hqb.cell (p:=⟨gf,6,none⟩) lgf5).trans x6;refine rd2 4 7 rfl rfl (fun K hK=>?_) fun K hK=>?_
     focus
      go_simp;refine hK.out _ _ trivial (fun hHeld=>?_);clear hK K;try simp only[Act.put,lsa,lsz,lss]
      refine rd1 7 rfl fun K hK=>?_
      go_simp;refine hK.out _ _ trivial (fun hHeld=>?_);clear hK K;try simp only[Act.put,lsa,lsz,lss]
      have h56:Below w5.heap.size w5 (wq.alloc (.cells #[.slice ca (m+1) cc] 52)):=hqb.alloc hqb.size _;have hlow6:=z3o hlow5 nL h56;have hfd6:FdB (wq.alloc (.cells #[.slice ca (m+1) cc] 52)) gf v pv:=Blk.now hfd5 h56;have hz6:=hz5.now h56;have hbx6:Blk (wq.alloc (.cells #[.slice ca (m+1) cc] 52)) wq.heap.size 52 #[.slice ca (m+1) cc]:=Blk.new _ _ _ _ rfl;have hcl6:=hcl.alloc (.cells #[.slice ca (m+1) cc] 52);have hrd6:(cL z1h).rd (wq.alloc (.cells #[.slice ca (m+1) cc] 52)) (InP (wq.alloc (.cells #[.slice ca (m+1) cc] 52)) gf ((wq.alloc (.cells #[.slice ca (m+1) cc] 52))).heap.size) [.slice ca (m+1) cc] path:=by
       obtain ⟨A',cap',he,hn,hx⟩:=hcl6.rds (S:=InP (wq.alloc (.cells #[.slice ca (m+1) cc] 52)) gf ((wq.alloc (.cells #[.slice ca (m+1) cc] 52))).heap.size) (fun b cs hh hb'=>⟨by have:=hqb.size;simp only[World.drew] at hb';omega,z0j hh,cs,hh⟩) (fun b hb=>absurd hb.1 (Nat.not_lt_zero _));simp only[Value.slice.injEq] at he;obtain ⟨rfl,-,rfl⟩:=he;exact ⟨ca,cc,by rw[hm],hn,hx⟩
      refine rd1 8 rfl fun K hK=>?_
      refine z0b (c:=cL z1h) rfl _ _ 139 rfl (gf+1) 52 i0 _ 24 Tryz.underlying139 hi hy0 hy1 hy2 rfl (by decide) (InP (wq.alloc (.cells #[.slice ca (m+1) cc] 52)) gf ((wq.alloc (.cells #[.slice ca (m+1) cc] 52))).heap.size) pv ps rfl hlow6 (z2p hlow6 nL) [.slice ca (m+1) cc] path hrd6 (fun u hu=>by (simp at hu;subst hu;rfl)) ⟨wq.heap.size,0,none⟩ 1 rfl (fun j u hj=>by (rw[z0g];exact z0f hbx6 j u hj)) (by omega) (by omega) ?_;intro pv' w7 hl7 hf7 hg7;obtain ⟨pa,pc,hpv⟩:=hl7.form;generalize (ps++[path]).length=pk at hpv;subst hpv;refine hK.out _ _ trivial (fun hHeld=>?_);clear hK K;try simp only[Act.put,lsa,lsz,lss]
      have hfd7:FdB w7 gf v pv:=hf7.blk hfd6 (by decide);obtain ⟨-,-,-,-,-,-,u6⟩:=hfd7.x;have uf:=Blk.free hfd7;refine tkM 2 [9,10] ?_;refine rd1 11 rfl fun K hK=>?_
      go_simp;refine hK.out _ _ trivial (fun hHeld=>?_);clear hK K;try simp only[Act.put,lsa,lsz,lss]
      refine wdn ?_;obtain ⟨hk8,hr8⟩:=z1y.put hfd6 hl7 hf7;have hz8:Blk (w7.setCell ⟨gf,6,none⟩ (.slice pa pk pc)) w.heap.size 90 #[.int .i64 0,.int .i64 0]:=by
       have h7:=hf7.blk hz6 (by decide);exact (Below.heap_setCell _ _ _ _ (show w.heap.size≠gf by omega)).trans h7
      have hfr:FrF gf w.heap.size w (w7.setCell ⟨gf,6,none⟩ (.slice pa pk pc)):=((FrF.of_below hal).trans ((FrF.of_below hb5).trans (FrF.of_below h56))).trans (hr8.less (nR hal.size (nR hb5.size h56.size)));clear hl7 hf7 hg7 hfd7 u6 uf hz6 hz5 hz1 hfd6 hfd5 hlow6 hlow5 hbx6 hcl6 hrd6 hcl hqc HCL5;obtain ⟨w8,hw8⟩:∃ w8,w8=w7.setCell ⟨gf,6,none⟩ (.slice pa pk pc):=⟨_,rfl⟩
      rw[←hw8] at hk8 hz8 hfr ⊢;have q0:=hz8.cell 0;have q1:=hz8.cell 1;have qf:=hz8.free;have lz8:=hz8.lt;simp only[gqA,gqZ,gqS] at q0 q1;clear hw8 h56 hqb;go_wp2_with fail
      have hk9:=(z1y.set (j:=1) (u:=.int .i64 0) (z1y.set (j:=0) (u:=.int .i64 (-1)) hk8 hz8 (by decide) (by decide) (by decide)) (hz8.set 0 _) (by decide) (by decide) (by decide))
      have hz9:=(hz8.set 0 (.int .i64 (-1))).set 1 (.int .i64 0);have hf9:=(hfr.set (j:=0) (u:=.int .i64 (-1)) nL hgw).set (j:=1) (u:=.int .i64 0) nL hgw;have p0:=hz9.cell 0;have p1:=hz9.cell 1;have lz9:=hz9.lt;simp only[gqA,gqZ,gqS,lsz,lss,lsa] at p0 p1;exact bodyPost_ret (v:=.agg #[.int .i64 (-1),.int .i64 0]) (by simp[results,Tryz.results120,go_sem,p0,p1,lz9]) rfl ⟨by rw[HPF.out];rfl,fun e h=>(by rw[HPF.out] at h;cases h),fun _=>hk9.raise (by simp[World.setCell]) nL,hf9⟩
     focus
      go_simp;refine hK.out _ _ trivial (fun hHeld=>?_);clear hK K;try simp only[Act.put,lsa,lsz,lss]
      have x6r:=((hqb.alloc hqb.size (.cells #[.slice ca (m+1) cc] 52)).cell (p:=⟨gf,6,none⟩) lgf5).trans x6;refine rd1 4 rfl fun K hK=>?_
      go_simp;refine hK.out _ _ trivial (fun hHeld=>?_);clear hK K;try simp only[Act.put,lsa,lsz,lss]
      have h56:Below w5.heap.size w5 (wq.alloc (.cells #[.slice ca (m+1) cc] 52)):=hqb.alloc hqb.size _;have hlow6:=z3o hlow5 nL h56;have hfd6:FdB (wq.alloc (.cells #[.slice ca (m+1) cc] 52)) gf v pv:=Blk.now hfd5 h56;have hz6:=hz5.now h56;have hbx6:Blk (wq.alloc (.cells #[.slice ca (m+1) cc] 52)) wq.heap.size 52 #[.slice ca (m+1) cc]:=Blk.new _ _ _ _ rfl;have hcl6:=hcl.alloc (.cells #[.slice ca (m+1) cc] 52);have hrd6:(cL z1h).rd (wq.alloc (.cells #[.slice ca (m+1) cc] 52)) (InP (wq.alloc (.cells #[.slice ca (m+1) cc] 52)) gf ((wq.alloc (.cells #[.slice ca (m+1) cc] 52))).heap.size) [.slice ca (m+1) cc] path:=by
       obtain ⟨A',cap',he,hn,hx⟩:=hcl6.rds (S:=InP (wq.alloc (.cells #[.slice ca (m+1) cc] 52)) gf ((wq.alloc (.cells #[.slice ca (m+1) cc] 52))).heap.size) (fun b cs hh hb'=>⟨by have:=hqb.size;simp only[World.drew] at hb';omega,z0j hh,cs,hh⟩) (fun b hb=>absurd hb.1 (Nat.not_lt_zero _));simp only[Value.slice.injEq] at he;obtain ⟨rfl,-,rfl⟩:=he;exact ⟨ca,cc,by rw[hm],hn,hx⟩
      refine rd1 8 rfl fun K hK=>?_
      refine z0b (c:=cL z1h) rfl _ _ 139 rfl (gf+1) 52 i0 _ 24 Tryz.underlying139 hi hy0 hy1 hy2 rfl (by decide) (InP (wq.alloc (.cells #[.slice ca (m+1) cc] 52)) gf ((wq.alloc (.cells #[.slice ca (m+1) cc] 52))).heap.size) pv ps rfl hlow6 (z2p hlow6 nL) [.slice ca (m+1) cc] path hrd6 (fun u hu=>by (simp at hu;subst hu;rfl)) ⟨wq.heap.size,0,none⟩ 1 rfl (fun j u hj=>by (rw[z0g];exact z0f hbx6 j u hj)) (by omega) (by omega) ?_;intro pv' w7 hl7 hf7 hg7;obtain ⟨pa,pc,hpv⟩:=hl7.form;generalize (ps++[path]).length=pk at hpv;subst hpv;refine hK.out _ _ trivial (fun hHeld=>?_);clear hK K;try simp only[Act.put,lsa,lsz,lss]
      have hfd7:FdB w7 gf v pv:=hf7.blk hfd6 (by decide);obtain ⟨-,-,-,-,-,-,u6⟩:=hfd7.x;have uf:=Blk.free hfd7;refine tkM 2 [9,10] ?_;refine rd1 11 rfl fun K hK=>?_
      go_simp;refine hK.out _ _ trivial (fun hHeld=>?_);clear hK K;try simp only[Act.put,lsa,lsz,lss]
      refine wdn ?_;obtain ⟨hk8,hr8⟩:=z1y.put hfd6 hl7 hf7;have hz8:Blk (w7.setCell ⟨gf,6,none⟩ (.slice pa pk pc)) w.heap.size 90 #[.int .i64 0,.int .i64 0]:=by
       have h7:=hf7.blk hz6 (by decide);exact (Below.heap_setCell _ _ _ _ (show w.heap.size≠gf by omega)).trans h7
      have hfr:FrF gf w.heap.size w (w7.setCell ⟨gf,6,none⟩ (.slice pa pk pc)):=((FrF.of_below hal).trans ((FrF.of_below hb5).trans (FrF.of_below h56))).trans (hr8.less (nR hal.size (nR hb5.size h56.size)));clear hl7 hf7 hg7 hfd7 u6 uf hz6 hz5 hz1 hfd6 hfd5 hlow6 hlow5 hbx6 hcl6 hrd6 hcl hqc HCL5;obtain ⟨w8,hw8⟩:∃ w8,w8=w7.setCell ⟨gf,6,none⟩ (.slice pa pk pc):=⟨_,rfl⟩
      rw[←hw8] at hk8 hz8 hfr ⊢;have q0:=hz8.cell 0;have q1:=hz8.cell 1;have qf:=hz8.free;have lz8:=hz8.lt;simp only[gqA,gqZ,gqS] at q0 q1;clear hw8 h56 hqb;go_wp2_with fail
      have hk9:=(z1y.set (j:=1) (u:=.int .i64 0) (z1y.set (j:=0) (u:=.int .i64 (-1)) hk8 hz8 (by decide) (by decide) (by decide)) (hz8.set 0 _) (by decide) (by decide) (by decide))
      have hz9:=(hz8.set 0 (.int .i64 (-1))).set 1 (.int .i64 0);have hf9:=(hfr.set (j:=0) (u:=.int .i64 (-1)) nL hgw).set (j:=1) (u:=.int .i64 0) nL hgw;have p0:=hz9.cell 0;have p1:=hz9.cell 1;have lz9:=hz9.lt;simp only[gqA,gqZ,gqS,lsz,lss,lsa] at p0 p1;exact bodyPost_ret (v:=.agg #[.int .i64 (-1),.int .i64 0]) (by simp[results,Tryz.results120,go_sem,p0,p1,lz9]) rfl ⟨by rw[HPF.out];rfl,fun e h=>(by rw[HPF.out] at h;cases h),fun _=>hk9.raise (by simp[World.setCell]) nL,hf9⟩
   focus
    go_simp;refine hK.out _ _ (HSS.out _ (hb2.alloc hb2.size _).drew) (fun hHeld=>?_);clear hK K;try simp only[Act.put,lsa,lsz,lss]
    refine rd1 10 rfl fun K hK=>?_
    go_simp;go_at_call 97
    have hal9:Below w2.heap.size w2 ((w2.alloc (.cells #[.int .i64 0,.int .i64 0] 90)).drew):=(bQ.alloc nL _).drew;have hbz9:Blk ((w2.alloc (.cells #[.int .i64 0,.int .i64 0] 90)).drew) w2.heap.size 90 #[.int .i64 0,.int .i64 0]:=(Blk.new _ _ _ _ rfl).drew;refine (HNX.out _ (hr2.now hal9)).mono ?_;rintro e wq ⟨rfl,hqq⟩;have hbz:=hbz9.now hqq;have hbq:Below W1.heap.size W1 wq:=z00 (z00 hb2 hb2.size hal9) (nR hb2.size hal9.size) hqq;simp only[z6w];go_wp2_with fail
    refine hK.out _ _ (HSS.out _ hbq) (fun hHeld=>?_);clear hK K;try simp only[Act.put,lsa,lsz,lss]
    refine tkM 3 [11,12,13] ?_;have u0:=hbz.cell 0;have u1:=hbz.cell 1;simp only[gqA,gqZ,gqS] at u0 u1;have uf:=hbz.free;have hb5:Below W1.heap.size W1 ((wq.setCell ⟨w2.heap.size,0,none⟩ (.int .i64 0)).setCell ⟨w2.heap.size,1,none⟩ (.int .i64 0)):=(hbq.setCell (p:=⟨w2.heap.size,0,none⟩) hb2.size _).setCell (p:=⟨w2.heap.size,1,none⟩) hb2.size _;have hx5:Blk ((wq.setCell ⟨w2.heap.size,0,none⟩ (.int .i64 0)).setCell ⟨w2.heap.size,1,none⟩ (.int .i64 0)) w2.heap.size 90 #[.int .i64 0,.int .i64 0]:=(hbz.set 0 _).set 1 _;refine rd1 15 rfl fun K hK=>?_
    go_simp;refine hK.out _ _ (HSS.out _ hb5) (fun hHeld=>?_);clear hK K;try simp only[Act.put,lsa,lsz,lss]
    refine tkM 1 [16] ?_;refine wdn ?_;clear hqq hHeld u0 u1 uf hbz hbz9 hal9;obtain ⟨w5,hw5⟩:∃ w5,w5=((wq.setCell ⟨w2.heap.size,0,none⟩ (.int .i64 0)).setCell ⟨w2.heap.size,1,none⟩ (.int .i64 0)):=⟨_,rfl⟩
    rw[←hw5] at hb5 hx5 ⊢;generalize w2.heap.size=g5 at *;clear hw5 hbq;go_wp2_with fail
    have hlow5:=z3o hlow hBw hb5;have hfd5:FdB w5 gf v pv:=Blk.now hfd hb5;have hz5:=hz1.now hb5;have HCL5:=hE (fun W' h=>HCL.out W' (z00 hb5 hb5.size h));obtain ⟨-,-,-,-,-,-,x6⟩:=hfd5.x;have lgf5:=Blk.lt hfd5;clear HPL HPZ HNX HSS HCL;refine rgH 12 (S:=(fun _=>True)) (trivial) fun hHeld=>?_
    refine tkM 5 [0,1,2,3,5] ?_;refine rd2 4 6 rfl rfl (fun K hK=>?_) fun K hK=>?_
    focus
     go_simp;refine hK.out _ _ trivial (fun hHeld=>?_);clear hK K;try simp only[Act.put,lsa,lsz,lss]
     refine rd1 6 rfl fun K hK=>?_
     go_simp;go_at_call 34
     refine (HCL5.out _ bQ.drew).mono ?_;rintro e wq ⟨cv,rfl,hcl,hqc⟩;obtain ⟨ca,cc,rfl⟩:=hcl.form;rw[hm] at hcl ⊢;have hqb:Below w5.heap.size w5 wq:=bQ.drew.trans hqc;go_wp2_with fail
     refine hK.out _ _ trivial (fun hHeld=>?_);clear hK K;try simp only[Act.put,lsa,lsz,lss]
     refine rd1 7 rfl fun K hK=>?_
     go_simp;refine hK.out _ _ trivial (fun hHeld=>?_);clear hK K;try simp only[Act.put,lsa,lsz,lss]
     have h56:Below w5.heap.size w5 (wq.alloc (.cells #[.slice ca (m+1) cc] 52)):=hqb.alloc hqb.size _;have hlow6:=z3o hlow5 nL h56;have hfd6:FdB (wq.alloc (.cells #[.slice ca (m+1) cc] 52)) gf v pv:=Blk.now hfd5 h56;have hz6:=hz5.now h56;have hbx6:Blk (wq.alloc (.cells #[.slice ca (m+1) cc] 52)) wq.heap.size 52 #[.slice ca (m+1) cc]:=Blk.new _ _ _ _ rfl;have hcl6:=hcl.alloc (.cells #[.slice ca (m+1) cc] 52);have hrd6:(cL z1h).rd (wq.alloc (.cells #[.slice ca (m+1) cc] 52)) (InP (wq.alloc (.cells #[.slice ca (m+1) cc] 52)) gf ((wq.alloc (.cells #[.slice ca (m+1) cc] 52))).heap.size) [.slice ca (m+1) cc] path:=by
      obtain ⟨A',cap',he,hn,hx⟩:=hcl6.rds (S:=InP (wq.alloc (.cells #[.slice ca (m+1) cc] 52)) gf ((wq.alloc (.cells #[.slice ca (m+1) cc] 52))).heap.size) (fun b cs hh hb'=>⟨by have:=hqb.size;simp only[World.drew] at hb';omega,z0j hh,cs,hh⟩) (fun b hb=>absurd hb.1 (Nat.not_lt_zero _));simp only[Value.slice.injEq] at he;obtain ⟨rfl,-,rfl⟩:=he;exact ⟨ca,cc,by rw[hm],hn,hx⟩
     refine rd1 8 rfl fun K hK=>?_
     refine z0b (c:=cL z1h) rfl _ _ 139 rfl (gf+1) 52 i0 _ 24 Tryz.underlying139 hi hy0 hy1 hy2 rfl (by decide) (InP (wq.alloc (.cells #[.slice ca (m+1) cc] 52)) gf ((wq.alloc (.cells #[.slice ca (m+1) cc] 52))).heap.size) pv ps rfl hlow6 (z2p hlow6 nL) [.slice ca (m+1) cc] path hrd6 (fun u hu=>by (simp at hu;subst hu;rfl)) ⟨wq.heap.size,0,none⟩ 1 rfl (fun j u hj=>by (rw[z0g];exact z0f hbx6 j u hj)) (by omega) (by omega) ?_;intro pv' w7 hl7 hf7 hg7;obtain ⟨pa,pc,hpv⟩:=hl7.form;generalize (ps++[path]).length=pk at hpv;subst hpv;refine hK.out _ _ trivial (fun hHeld=>?_);clear hK K;try simp only[Act.put,lsa,lsz,lss]
     have hfd7:FdB w7 gf v pv:=hf7.blk hfd6 (by decide);obtain ⟨-,-,-,-,-,-,u6⟩:=hfd7.x;have uf:=Blk.free hfd7;refine tkM 2 [9,10] ?_;refine rd1 11 rfl fun K hK=>?_
     go_simp;refine hK.out _ _ trivial (fun hHeld=>?_);clear hK K;try simp only[Act.put,lsa,lsz,lss]
     refine wdn ?_;obtain ⟨hk8,hr8⟩:=z1y.put hfd6 hl7 hf7;have hz8:Blk (w7.setCell ⟨gf,6,none⟩ (.slice pa pk pc)) w.heap.size 90 #[.int .i64 0,.int .i64 0]:=by
      have h7:=hf7.blk hz6 (by decide);exact (Below.heap_setCell _ _ _ _ (show w.heap.size≠gf by omega)).trans h7
     have hfr:FrF gf w.heap.size w (w7.setCell ⟨gf,6,none⟩ (.slice pa pk pc)):=((FrF.of_below hal).trans ((FrF.of_below hb5).trans (FrF.of_below h56))).trans (hr8.less (nR hal.size (nR hb5.size h56.size)));clear hl7 hf7 hg7 hfd7 u6 uf hz6 hz5 hz1 hfd6 hfd5 hlow6 hlow5 hbx6 hcl6 hrd6 hcl hqc HCL5;obtain ⟨w8,hw8⟩:∃ w8,w8=w7.setCell ⟨gf,6,none⟩ (.slice pa pk pc):=⟨_,rfl⟩
     rw[←hw8] at hk8 hz8 hfr ⊢;have q0:=hz8.cell 0;have q1:=hz8.cell 1;have qf:=hz8.free;have lz8:=hz8.lt;simp only[gqA,gqZ,gqS] at q0 q1;clear hw8 h56 hqb;go_wp2_with fail
     have hk9:=(z1y.set (j:=1) (u:=.int .i64 0) (z1y.set (j:=0) (u:=.int .i64 (-1)) hk8 hz8 (by decide) (by decide) (by decide)) (hz8.set 0 _) (by decide) (by decide) (by decide))
     have hz9:=(hz8.set 0 (.int .i64 (-1))).set 1 (.int .i64 0);have hf9:=(hfr.set (j:=0) (u:=.int .i64 (-1)) nL hgw).set (j:=1) (u:=.int .i64 0) nL hgw;have p0:=hz9.cell 0;have p1:=hz9.cell 1;have lz9:=hz9.lt;simp only[gqA,gqZ,gqS,lsz,lss,lsa] at p0 p1;exact bodyPost_ret (v:=.agg #[.int .i64 (-1),.int .i64 0]) (by simp[results,Tryz.results120,go_sem,p0,p1,lz9]) rfl ⟨by rw[HPF.out];rfl,fun e h=>(by rw[HPF.out] at h;cases h),fun _=>hk9.raise (by simp[World.setCell]) nL,hf9⟩
    focus
     go_simp;go_at_call 34
     refine (HCL5.out _ bQ.drew).mono ?_;rintro e wq ⟨cv,rfl,hcl,hqc⟩;obtain ⟨ca,cc,rfl⟩:=hcl.form;rw[hm] at hcl ⊢;have hqb:Below w5.heap.size w5 wq:=bQ.drew.trans hqc;go_wp2_with fail
     refine hK.out _ _ trivial (fun hHeld=>?_);clear hK K;try simp only[Act.put,lsa,lsz,lss]
     have x6q:=(hqb.cell (p:=⟨gf,6,none⟩) lgf5).trans x6;refine rd2 4 7 rfl rfl (fun K hK=>?_) fun K hK=>?_
     focus
      go_simp;refine hK.out _ _ trivial (fun hHeld=>?_);clear hK K;try simp only[Act.put,lsa,lsz,lss]
      refine rd1 7 rfl fun K hK=>?_
      go_simp;refine hK.out _ _ trivial (fun hHeld=>?_);clear hK K;try simp only[Act.put,lsa,lsz,lss]
      have h56:Below w5.heap.size w5 (wq.alloc (.cells #[.slice ca (m+1) cc] 52)):=hqb.alloc hqb.size _;have hlow6:=z3o hlow5 nL h56;have hfd6:FdB (wq.alloc (.cells #[.slice ca (m+1) cc] 52)) gf v pv:=Blk.now hfd5 h56;have hz6:=hz5.now h56;have hbx6:Blk (wq.alloc (.cells #[.slice ca (m+1) cc] 52)) wq.heap.size 52 #[.slice ca (m+1) cc]:=Blk.new _ _ _ _ rfl;have hcl6:=hcl.alloc (.cells #[.slice ca (m+1) cc] 52);have hrd6:(cL z1h).rd (wq.alloc (.cells #[.slice ca (m+1) cc] 52)) (InP (wq.alloc (.cells #[.slice ca (m+1) cc] 52)) gf ((wq.alloc (.cells #[.slice ca (m+1) cc] 52))).heap.size) [.slice ca (m+1) cc] path:=by
       obtain ⟨A',cap',he,hn,hx⟩:=hcl6.rds (S:=InP (wq.alloc (.cells #[.slice ca (m+1) cc] 52)) gf ((wq.alloc (.cells #[.slice ca (m+1) cc] 52))).heap.size) (fun b cs hh hb'=>⟨by have:=hqb.size;simp only[World.drew] at hb';omega,z0j hh,cs,hh⟩) (fun b hb=>absurd hb.1 (Nat.not_lt_zero _));simp only[Value.slice.injEq] at he;obtain ⟨rfl,-,rfl⟩:=he;exact ⟨ca,cc,by rw[hm],hn,hx⟩
      refine rd1 8 rfl fun K hK=>?_
      refine z0b (c:=cL z1h) rfl _ _ 139 rfl (gf+1) 52 i0 _ 24 Tryz.underlying139 hi hy0 hy1 hy2 rfl (by decide) (InP (wq.alloc (.cells #[.slice ca (m+1) cc] 52)) gf ((wq.alloc (.cells #[.slice ca (m+1) cc] 52))).heap.size) pv ps rfl hlow6 (z2p hlow6 nL) [.slice ca (m+1) cc] path hrd6 (fun u hu=>by (simp at hu;subst hu;rfl)) ⟨wq.heap.size,0,none⟩ 1 rfl (fun j u hj=>by (rw[z0g];exact z0f hbx6 j u hj)) (by omega) (by omega) ?_;intro pv' w7 hl7 hf7 hg7;obtain ⟨pa,pc,hpv⟩:=hl7.form;generalize (ps++[path]).length=pk at hpv;subst hpv;refine hK.out _ _ trivial (fun hHeld=>?_);clear hK K;try simp only[Act.put,lsa,lsz,lss]
      have hfd7:FdB w7 gf v pv:=hf7.blk hfd6 (by decide);obtain ⟨-,-,-,-,-,-,u6⟩:=hfd7.x;have uf:=Blk.free hfd7;refine tkM 2 [9,10] ?_;refine rd1 11 rfl fun K hK=>?_
      go_simp;refine hK.out _ _ trivial (fun hHeld=>?_);clear hK K;try simp only[Act.put,lsa,lsz,lss]
      refine wdn ?_;obtain ⟨hk8,hr8⟩:=z1y.put hfd6 hl7 hf7;have hz8:Blk (w7.setCell ⟨gf,6,none⟩ (.slice pa pk pc)) w.heap.size 90 #[.int .i64 0,.int .i64 0]:=by
       have h7:=hf7.blk hz6 (by decide);exact (Below.heap_setCell _ _ _ _ (show w.heap.size≠gf by omega)).trans h7
      have hfr:FrF gf w.heap.size w (w7.setCell ⟨gf,6,none⟩ (.slice pa pk pc)):=((FrF.of_below hal).trans ((FrF.of_below hb5).trans (FrF.of_below h56))).trans (hr8.less (nR hal.size (nR hb5.size h56.size)));clear hl7 hf7 hg7 hfd7 u6 uf hz6 hz5 hz1 hfd6 hfd5 hlow6 hlow5 hbx6 hcl6 hrd6 hcl hqc HCL5;obtain ⟨w8,hw8⟩:∃ w8,w8=w7.setCell ⟨gf,6,none⟩ (.slice pa pk pc):=⟨_,rfl⟩
      rw[←hw8] at hk8 hz8 hfr ⊢;have q0:=hz8.cell 0;have q1:=hz8.cell 1;have qf:=hz8.free;have lz8:=hz8.lt;simp only[gqA,gqZ,gqS] at q0 q1;clear hw8 h56 hqb;go_wp2_with fail
      have hk9:=(z1y.set (j:=1) (u:=.int .i64 0) (z1y.set (j:=0) (u:=.int .i64 (-1)) hk8 hz8 (by decide) (by decide) (by decide)) (hz8.set 0 _) (by decide) (by decide) (by decide))
      have hz9:=(hz8.set 0 (.int .i64 (-1))).set 1 (.int .i64 0);have hf9:=(hfr.set (j:=0) (u:=.int .i64 (-1)) nL hgw).set (j:=1) (u:=.int .i64 0) nL hgw;have p0:=hz9.cell 0;have p1:=hz9.cell 1;have lz9:=hz9.lt;simp only[gqA,gqZ,gqS,lsz,lss,lsa] at p0 p1;exact bodyPost_ret (v:=.agg #[.int .i64 (-1),.int .i64 0]) (by simp[results,Tryz.results120,go_sem,p0,p1,lz9]) rfl ⟨by rw[HPF.out];rfl,fun e h=>(by rw[HPF.out] at h;cases h),fun _=>hk9.raise (by simp[World.setCell]) nL,hf9⟩
     focus
      go_simp;refine hK.out _ _ trivial (fun hHeld=>?_);clear hK K;try simp only[Act.put,lsa,lsz,lss]
      have x6r:=((hqb.alloc hqb.size (.cells #[.slice ca (m+1) cc] 52)).cell (p:=⟨gf,6,none⟩) lgf5).trans x6;refine rd1 4 rfl fun K hK=>?_
      go_simp;refine hK.out _ _ trivial (fun hHeld=>?_);clear hK K;try simp only[Act.put,lsa,lsz,lss]
      have h56:Below w5.heap.size w5 (wq.alloc (.cells #[.slice ca (m+1) cc] 52)):=hqb.alloc hqb.size _;have hlow6:=z3o hlow5 nL h56;have hfd6:FdB (wq.alloc (.cells #[.slice ca (m+1) cc] 52)) gf v pv:=Blk.now hfd5 h56;have hz6:=hz5.now h56;have hbx6:Blk (wq.alloc (.cells #[.slice ca (m+1) cc] 52)) wq.heap.size 52 #[.slice ca (m+1) cc]:=Blk.new _ _ _ _ rfl;have hcl6:=hcl.alloc (.cells #[.slice ca (m+1) cc] 52);have hrd6:(cL z1h).rd (wq.alloc (.cells #[.slice ca (m+1) cc] 52)) (InP (wq.alloc (.cells #[.slice ca (m+1) cc] 52)) gf ((wq.alloc (.cells #[.slice ca (m+1) cc] 52))).heap.size) [.slice ca (m+1) cc] path:=by
       obtain ⟨A',cap',he,hn,hx⟩:=hcl6.rds (S:=InP (wq.alloc (.cells #[.slice ca (m+1) cc] 52)) gf ((wq.alloc (.cells #[.slice ca (m+1) cc] 52))).heap.size) (fun b cs hh hb'=>⟨by have:=hqb.size;simp only[World.drew] at hb';omega,z0j hh,cs,hh⟩) (fun b hb=>absurd hb.1 (Nat.not_lt_zero _));simp only[Value.slice.injEq] at he;obtain ⟨rfl,-,rfl⟩:=he;exact ⟨ca,cc,by rw[hm],hn,hx⟩
      refine rd1 8 rfl fun K hK=>?_
      refine z0b (c:=cL z1h) rfl _ _ 139 rfl (gf+1) 52 i0 _ 24 Tryz.underlying139 hi hy0 hy1 hy2 rfl (by decide) (InP (wq.alloc (.cells #[.slice ca (m+1) cc] 52)) gf ((wq.alloc (.cells #[.slice ca (m+1) cc] 52))).heap.size) pv ps rfl hlow6 (z2p hlow6 nL) [.slice ca (m+1) cc] path hrd6 (fun u hu=>by (simp at hu;subst hu;rfl)) ⟨wq.heap.size,0,none⟩ 1 rfl (fun j u hj=>by (rw[z0g];exact z0f hbx6 j u hj)) (by omega) (by omega) ?_;intro pv' w7 hl7 hf7 hg7;obtain ⟨pa,pc,hpv⟩:=hl7.form;generalize (ps++[path]).length=pk at hpv;subst hpv;refine hK.out _ _ trivial (fun hHeld=>?_);clear hK K;try simp only[Act.put,lsa,lsz,lss]
      have hfd7:FdB w7 gf v pv:=hf7.blk hfd6 (by decide);obtain ⟨-,-,-,-,-,-,u6⟩:=hfd7.x;have uf:=Blk.free hfd7;refine tkM 2 [9,10] ?_;refine rd1 11 rfl fun K hK=>?_
      go_simp;refine hK.out _ _ trivial (fun hHeld=>?_);clear hK K;try simp only[Act.put,lsa,lsz,lss]
      refine wdn ?_;obtain ⟨hk8,hr8⟩:=z1y.put hfd6 hl7 hf7;have hz8:Blk (w7.setCell ⟨gf,6,none⟩ (.slice pa pk pc)) w.heap.size 90 #[.int .i64 0,.int .i64 0]:=by
       have h7:=hf7.blk hz6 (by decide);exact (Below.heap_setCell _ _ _ _ (show w.heap.size≠gf by omega)).trans h7
      have hfr:FrF gf w.heap.size w (w7.setCell ⟨gf,6,none⟩ (.slice pa pk pc)):=((FrF.of_below hal).trans ((FrF.of_below hb5).trans (FrF.of_below h56))).trans (hr8.less (nR hal.size (nR hb5.size h56.size)));clear hl7 hf7 hg7 hfd7 u6 uf hz6 hz5 hz1 hfd6 hfd5 hlow6 hlow5 hbx6 hcl6 hrd6 hcl hqc HCL5;obtain ⟨w8,hw8⟩:∃ w8,w8=w7.setCell ⟨gf,6,none⟩ (.slice pa pk pc):=⟨_,rfl⟩
      rw[←hw8] at hk8 hz8 hfr ⊢;have q0:=hz8.cell 0;have q1:=hz8.cell 1;have qf:=hz8.free;have lz8:=hz8.lt;simp only[gqA,gqZ,gqS] at q0 q1;clear hw8 h56 hqb;go_wp2_with fail
      have hk9:=(z1y.set (j:=1) (u:=.int .i64 0) (z1y.set (j:=0) (u:=.int .i64 (-1)) hk8 hz8 (by decide) (by decide) (by decide)) (hz8.set 0 _) (by decide) (by decide) (by decide))
      have hz9:=(hz8.set 0 (.int .i64 (-1))).set 1 (.int .i64 0);have hf9:=(hfr.set (j:=0) (u:=.int .i64 (-1)) nL hgw).set (j:=1) (u:=.int .i64 0) nL hgw;have p0:=hz9.cell 0;have p1:=hz9.cell 1;have lz9:=hz9.lt;simp only[gqA,gqZ,gqS,lsz,lss,lsa] at p0 p1;exact bodyPost_ret (v:=.agg #[.int .i64 (-1),.int .i64 0]) (by simp[results,Tryz.results120,go_sem,p0,p1,lz9]) rfl ⟨by rw[HPF.out];rfl,fun e h=>(by rw[HPF.out] at h;cases h),fun _=>hk9.raise (by simp[World.setCell]) nL,hf9⟩
end Go.Proofs.YtpenlfedkacglaaGreatDoor
