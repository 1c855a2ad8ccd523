import Derived.Test.YtpenlfedkacglaaGreatDoorL17
set_option maxRecDepth 100000
set_option maxHeartbeats 40000000
set_option linter.all false
namespace Go.Proofs.YtpenlfedkacglaaGreatDoor
open Go.RowKit
open Go.Maps (Keyed)
attribute [local go_sem] z05 z07 z01 z02
attribute [-go_sem] run_equalIn_agg
theorem y3t (v:LV) (w:World) (E:y6n w) (hr:LvR w v) (hm3:v.l.jts.length≤140737488351232):Calls Tryz.prog 76 #[lvA v] w (y33 w v.l):=by
 have hbx:=Lx.new hr;unfold lvA;go_enter Tryz.func76,Tryz.ntmps76
 go_wp2_with fail;go_loopw [16] (fun n wr=>∃ k:Nat,k≤v.l.jts.length∧n=.int .i64 k∧Lx w wr v∧Hid ((v.l.jts.take k).all (y2i v.l)=true)) (fun n _=>v.l.jts.length - (intOf n).toNat)
 case atStart=>exact ⟨0,nZ,rfl,hbx,hE (by simp)⟩
 case round=>
  obtain ⟨k,hk,rfl,hb,HK⟩:=hrel;clear hbx;by_cases hlt:k < v.l.jts.length
  ·have hki:(k:Int) < (v.l.jts.length:Int):=by omega
   obtain ⟨b,off,hA,lb,ho,y0,y1,y2,y3⟩:=hb.rd.r3.elJ hlt;have hba:=hb.alloc (.cells #[.int .i64 v.l.jts[k].a.el,.int .i64 v.l.jts[k].a.sd,.int .i64 v.l.jts[k].b.el,.int .i64 v.l.jts[k].b.sd] 107);have hjb:Blk (wr.alloc (.cells #[.int .i64 v.l.jts[k].a.el,.int .i64 v.l.jts[k].a.sd,.int .i64 v.l.jts[k].b.el,.int .i64 v.l.jts[k].b.sd] 107)) wr.heap.size 107 #[.int .i64 v.l.jts[k].a.el,.int .i64 v.l.jts[k].a.sd,.int .i64 v.l.jts[k].b.el,.int .i64 v.l.jts[k].b.sd]:=Blk.new _ _ _ _ rfl;have x0:=hba.x0;have x1:=hba.x1;have x2:=hba.x2;have x3:=hba.x3;have x4:=hba.x4;have x5:=hba.x5;have HNO:=hE fun h:y2i v.l v.l.jts[k]=false=>j6b (z8n (p:=y2i v.l) hlt h)
   have HYE:=hE fun h:y2i v.l v.l.jts[k]=true=>z4i (p:=y2i v.l) hlt HK.out h
   have HQ:=hE fun W=>x3c W 9998 v.l.jts[k].a v.l.jts[k].b
   have E1:=E.now hba.bel;have HA3:=hE hA;have HE:=hE fun (e:z0o) W E h=>y2d v e W E h
   unfold lvA at HE;(try unfold z1c at x3);(try unfold z1c at HE);(try unfold z1c at ⊢);rw[hA] at x3 HE ⊢;have hq0:=HQ.out
   cases ca:exB v.l v.l.jts[k].a with
   | false=>
    have HX:=hE (HNO.out (x7v ca));have HE1:=hE fun W E h=>(HE.out v.l.jts[k].a W E h)
    rw[ca] at HE1;clear hA ho HK HNO HYE ca HE hq0 HQ;generalize v.l.jts[k]=q at *;go_wp2_with fail
    refine (HE1.out _ E1 hba.rd).mono ?_;rintro e w5 ⟨rfl,hb5⟩;have hB5:=(hba.now hb5).bel;clear x0 x1 x2 x3 x4 x5 hba hjb;go_wp2_with fail
    go_ret2
    exact Or.inl ⟨by rw[HX.out];decide,y2v HX.out.symm,hB5⟩
   | true=>
    have HE1:=hE fun W E h=>(HE.out v.l.jts[k].a W E h)
    have HE2:=hE fun W E h=>(HE.out v.l.jts[k].b W E h)
    rw[ca] at HE1
    cases cb:exB v.l v.l.jts[k].b with
    | false=>
     have HX:=hE (HNO.out (x7w cb));rw[cb] at HE2;clear hA ho HK HNO HYE ca cb HE hq0 HQ;generalize v.l.jts[k]=q at *;go_wp2_with fail
     refine (HE1.out _ E1 hba.rd).mono ?_;rintro e w5 ⟨rfl,hb5⟩;have hb5x:=hba.now hb5;have hj5:=hjb.now hb5;have E5:=E1.now hb5;clear x0 x1 x2 x3 x4 x5 hba hjb;have x0:=hb5x.x0;have x1:=hb5x.x1;have x2:=hb5x.x2;have x3:=hb5x.x3;have x4:=hb5x.x4;have x5:=hb5x.x5;have z2:w5.cell? ⟨wr.heap.size,2,none⟩=some (.int .i64 q.b.el):=hj5.cell 2;have z3:w5.cell? ⟨wr.heap.size,3,none⟩=some (.int .i64 q.b.sd):=hj5.cell 3;rw[HA3.out] at x3;go_wp2_with fail
     refine (HE2.out _ E5 hb5x.rd).mono ?_;rintro e w6 ⟨rfl,hb6⟩;have hB6:=(hb5x.now hb6).bel;clear x0 x1 x2 x3 x4 x5 hb5x hj5 z2 z3;go_wp2_with fail
     go_ret2
     exact Or.inl ⟨by rw[HX.out];decide,y2v HX.out.symm,hB6⟩
    | true=>
     rw[cb] at HE2
     cases cq:decide (v.l.jts[k].a=v.l.jts[k].b) with
     | true=>
      have HX:=hE (HNO.out (x7x cq));rw[cq] at hq0;clear hA ho HK HNO HYE ca cb HE HQ cq;generalize v.l.jts[k]=q at *;go_wp2_with fail
      refine (HE1.out _ E1 hba.rd).mono ?_;rintro e w5 ⟨rfl,hb5⟩;have hb5x:=hba.now hb5;have hj5:=hjb.now hb5;have E5:=E1.now hb5;clear x0 x1 x2 x3 x4 x5 hba hjb;have x0:=hb5x.x0;have x1:=hb5x.x1;have x2:=hb5x.x2;have x3:=hb5x.x3;have x4:=hb5x.x4;have x5:=hb5x.x5;have z2:w5.cell? ⟨wr.heap.size,2,none⟩=some (.int .i64 q.b.el):=hj5.cell 2;have z3:w5.cell? ⟨wr.heap.size,3,none⟩=some (.int .i64 q.b.sd):=hj5.cell 3;rw[HA3.out] at x3;go_wp2_with fail
      refine (HE2.out _ E5 hb5x.rd).mono ?_;rintro e w6 ⟨rfl,hb6⟩;have hB6:=(hb5x.now hb6).bel;have hj6:=hj5.now hb6;clear x0 x1 x2 x3 x4 x5 hb5x hj5 z2 z3;have z0:w6.cell? ⟨wr.heap.size,0,none⟩=some (.int .i64 q.a.el):=hj6.cell 0;have z1:w6.cell? ⟨wr.heap.size,1,none⟩=some (.int .i64 q.a.sd):=hj6.cell 1;have z2:w6.cell? ⟨wr.heap.size,2,none⟩=some (.int .i64 q.b.el):=hj6.cell 2;have z3:w6.cell? ⟨wr.heap.size,3,none⟩=some (.int .i64 q.b.sd):=hj6.cell 3;go_wp2_with fail
      go_ret2
      exact Or.inl ⟨by rw[HX.out];decide,y2v HX.out.symm,hB6⟩
     | false=>
      have HX:=hE (HYE.out (x7y ca cb cq));rw[cq] at hq0;clear hA ho HK HNO HYE ca cb HE HQ cq;generalize v.l.jts[k]=q at *;go_wp2_with fail
      refine (HE1.out _ E1 hba.rd).mono ?_;rintro e w5 ⟨rfl,hb5⟩;have hb5x:=hba.now hb5;have hj5:=hjb.now hb5;have E5:=E1.now hb5;clear x0 x1 x2 x3 x4 x5 hba hjb;have x0:=hb5x.x0;have x1:=hb5x.x1;have x2:=hb5x.x2;have x3:=hb5x.x3;have x4:=hb5x.x4;have x5:=hb5x.x5;have z2:w5.cell? ⟨wr.heap.size,2,none⟩=some (.int .i64 q.b.el):=hj5.cell 2;have z3:w5.cell? ⟨wr.heap.size,3,none⟩=some (.int .i64 q.b.sd):=hj5.cell 3;rw[HA3.out] at x3;go_wp2_with fail
      refine (HE2.out _ E5 hb5x.rd).mono ?_;rintro e w6 ⟨rfl,hb6⟩;have hb6x:=hb5x.now hb6;have hj6:=hj5.now hb6;clear x0 x1 x2 x3 x4 x5 hb5x hj5 z2 z3;have z0:w6.cell? ⟨wr.heap.size,0,none⟩=some (.int .i64 q.a.el):=hj6.cell 0;have z1:w6.cell? ⟨wr.heap.size,1,none⟩=some (.int .i64 q.a.sd):=hj6.cell 1;have z2:w6.cell? ⟨wr.heap.size,2,none⟩=some (.int .i64 q.b.el):=hj6.cell 2;have z3:w6.cell? ⟨wr.heap.size,3,none⟩=some (.int .i64 q.b.sd):=hj6.cell 3;go_wp2_with fail
      go_roundw
      case rel=>exact ⟨k+1,by omega,by go_num,hb6x,HX⟩
      case measure=>simp[intOf];omega
  ·have HAL:=hE (z5l hlt HK.out);have hmm:=@run_makeMap Tryz.prog;have x3:=hb.x3;have hltb:=hb.lt;have hbm:=hb.alloc (.map #[] 0);have x3':=hbm.x3;have hset:=z2f.made wr wr.heap.size rfl;have HDU:=hE fun h:¬(z3r v.l.jts).Nodup=>j1y HAL.out h
   have HDO:=hE fun h:(z3r v.l.jts).Nodup=>j1z HAL.out h
   clear HK hb;go_wp2_with fail
   clear hmm x3 x3';obtain ⟨B,hB⟩:∃ B,B=wr.heap.size:=⟨_,rfl⟩
   rw[←hB] at hset hltb ⊢;clear hB;go_loopw [44] (fun n wr=>∃ k:Nat,k≤v.l.jts.length∧n=.int .i64 k∧Lx w wr v∧z2f wr B (2*k) (z03 (v.l.jts.take k))∧Hid ((z3r (v.l.jts.take k)).Nodup)) (fun n _=>v.l.jts.length - (intOf n).toNat)
   case atStart=>exact ⟨0,nZ,rfl,hbm,hset,hE (by simp[z3r])⟩
   case round=>
    obtain ⟨k,hk,rfl,hb,hst,HB⟩:=hrel;clear hbm hset;by_cases hlt:k < v.l.jts.length
    ·have hki:(k:Int) < (v.l.jts.length:Int):=by omega
     obtain ⟨b,off,hA,lb,ho,y0,y1,y2,y3⟩:=hb.rd.r3.elJ hlt;have hjn:=y8s (List.all_eq_true.1 HAL.out v.l.jts[k] (uE hlt));have HNE:=hE hjn.2.2;obtain ⟨hoa,hob⟩:=ho;have HTK:Hid (v.l.jts.take (k+1)=v.l.jts.take k++[v.l.jts[k]]):=hE (tqS hlt);have HD1:=hE fun h:(z03 (v.l.jts.take k) v.l.jts[k].a).isSome=true=>HDU.out (y8i hlt (Or.inl h))
     have HD2:=hE fun h:(z03 (v.l.jts.take k) v.l.jts[k].b).isSome=true=>HDU.out (y8i hlt (Or.inr h))
     have HND:=hE fun (h1:(z03 (v.l.jts.take k) v.l.jts[k].a).isSome=false) (h2:(z03 (v.l.jts.take k) v.l.jts[k].b).isSome=false)=>x0l hlt HB.out h1 h2 hjn.2.2
     have hba:=hb.alloc (.cells #[.int .i64 v.l.jts[k].a.el,.int .i64 v.l.jts[k].a.sd,.int .i64 v.l.jts[k].b.el,.int .i64 v.l.jts[k].b.sd] 107);have hsta:=hst.alloc (.cells #[.int .i64 v.l.jts[k].a.el,.int .i64 v.l.jts[k].a.sd,.int .i64 v.l.jts[k].b.el,.int .i64 v.l.jts[k].b.sd] 107);have hjb:Blk (wr.alloc (.cells #[.int .i64 v.l.jts[k].a.el,.int .i64 v.l.jts[k].a.sd,.int .i64 v.l.jts[k].b.el,.int .i64 v.l.jts[k].b.sd] 107)) wr.heap.size 107 #[.int .i64 v.l.jts[k].a.el,.int .i64 v.l.jts[k].a.sd,.int .i64 v.l.jts[k].b.el,.int .i64 v.l.jts[k].b.sd]:=Blk.new _ _ _ _ rfl;have hBlt:=hst.lt;rw[hA];obtain ⟨ga,hga⟩:∃ g,(z03 (v.l.jts.take k) v.l.jts[k].a).getD ⟨0,0⟩=g:=⟨_,rfl⟩
     obtain ⟨gb,hgb⟩:∃ g,(z03 (v.l.jts.take k) v.l.jts[k].b).getD ⟨0,0⟩=g:=⟨_,rfl⟩
     have HGA:=hE hga;have HGB:=hE hgb;have hal1:=hba.alloc (.cells #[.int .i64 ga.el,.int .i64 ga.sd] 90);have hst1:=hsta.alloc (.cells #[.int .i64 ga.el,.int .i64 ga.sd] 90);have hjb1:=hjb.alloc (.cells #[.int .i64 ga.el,.int .i64 ga.sd] 90);have hal2:=hal1.alloc (.cells #[.int .i64 gb.el,.int .i64 gb.sd] 90);have hst2:=hst1.alloc (.cells #[.int .i64 gb.el,.int .i64 gb.sd] 90);have hjb2:=hjb1.alloc (.cells #[.int .i64 gb.el,.int .i64 gb.sd] 90);clear hA hga hgb hjn HB
     cases ca:(z03 (v.l.jts.take k) v.l.jts[k].a).isSome with
     | true=>
      have HX:=hE (HD1.out ca);have HCA:=hE ca;obtain ⟨cb,hcb⟩:∃ c,(z03 (v.l.jts.take k) v.l.jts[k].b).isSome=c:=⟨_,rfl⟩
      have HCB:=hE hcb;clear ca hcb HND HD1 HD2 HTK;generalize v.l.jts[k]=q at *;generalize v.l.jts.take k=js at *;go_wp2_with (first | (at_lookup;refine z0n _ rfl _ _ 133 rfl Tryz.underlying133 B (2*k) (z03 js) rfl hsta q.a hoa rfl ga HGA.out true HCA.out ?_) | (at_lookup;refine z0n _ rfl _ _ 133 rfl Tryz.underlying133 B (2*k) (z03 js) rfl hst1 q.b hob rfl gb HGB.out cb HCB.out ?_))
      go_ret2
      exact Or.inl ⟨by rw[HX.out];decide,y2v HX.out.symm,hal2.bel⟩
     | false=>
      have HCA:=hE ca
      cases cb:(z03 (v.l.jts.take k) v.l.jts[k].b).isSome with
      | true=>
       have HX:=hE (HD2.out cb);have HCB:=hE cb;clear ca cb HND HD1 HD2 HTK;generalize v.l.jts[k]=q at *;generalize v.l.jts.take k=js at *;go_wp2_with (first | (at_lookup;refine z0n _ rfl _ _ 133 rfl Tryz.underlying133 B (2*k) (z03 js) rfl hsta q.a hoa rfl ga HGA.out false HCA.out ?_) | (at_lookup;refine z0n _ rfl _ _ 133 rfl Tryz.underlying133 B (2*k) (z03 js) rfl hst1 q.b hob rfl gb HGB.out true HCB.out ?_))
       go_ret2
       exact Or.inl ⟨by rw[HX.out];decide,y2v HX.out.symm,hal2.bel⟩
      | false=>
       have HX:=hE (HND.out ca cb);have HCB:=hE cb;have HUA:Hid (∀ e,upE (upE (z03 (v.l.jts.take k)) v.l.jts[k].a v.l.jts[k].b) v.l.jts[k].b v.l.jts[k].a e=z03 (v.l.jts.take (k+1)) e):=hE fun e=>(j7n ca cb HNE.out e).trans (by rw[HTK.out])
       have HUB:Hid (∀ e,upE (upE (z03 (v.l.jts.take k)) v.l.jts[k].b v.l.jts[k].a) v.l.jts[k].a v.l.jts[k].b e=z03 (v.l.jts.take (k+1)) e):=hE fun e=>(j9f ca cb HNE.out e).trans (by rw[HTK.out])
       obtain ⟨js',hjs'⟩:∃ js',v.l.jts.take (k+1)=js':=⟨_,rfl⟩
       rw[hjs'] at HUA HUB;have HJS:=hE hjs';clear ca cb HND HD1 HD2 HTK hjs';generalize v.l.jts[k]=q at *;generalize v.l.jts.take k=js at *;go_wp2_with (first | (at_lookup;refine z0n _ rfl _ _ 133 rfl Tryz.underlying133 B (2*k) (z03 js) rfl hsta q.a hoa rfl ga HGA.out false HCA.out ?_) | (at_lookup;refine z0n _ rfl _ _ 133 rfl Tryz.underlying133 B (2*k) (z03 js) rfl hst1 q.b hob rfl gb HGB.out false HCB.out ?_))
       obtain ⟨W,hW⟩:∃ W,((wr.alloc (.cells #[.int .i64 q.a.el,.int .i64 q.a.sd,.int .i64 q.b.el,.int .i64 q.b.sd] 107)).alloc (.cells #[.int .i64 ga.el,.int .i64 ga.sd] 90)).alloc (.cells #[.int .i64 gb.el,.int .i64 gb.sd] 90)=W:=⟨_,rfl⟩
       rw[hW] at hal2 hst2 hjb2 ⊢;clear hW hal1 hst1 hjb1 hba hsta hjb y0 y1 y2 y3 hb hst;have hst3:=hst2.drew;have hal3:=hal2.drew;have hjb3:=hjb2.drew;obtain ⟨w6,r6,h6,g6⟩:=hst3.put (by unfold maxLen;omega) q.a q.b hoa;obtain ⟨w7,r7,h7,g7⟩:=h6.put (by unfold maxLen;omega) q.b q.a hob;obtain ⟨w8,r8,h8,g8⟩:=hst3.put (by unfold maxLen;omega) q.b q.a hob;obtain ⟨w9,r9,h9,g9⟩:=h8.put (by unfold maxLen;omega) q.a q.b hoa;have hBj:wr.heap.size≠B:=by omega
       have j6:Blk w6 wr.heap.size 107 #[.int .i64 q.a.el,.int .i64 q.a.sd,.int .i64 q.b.el,.int .i64 q.b.sd]:=(g6.block _ hjb3.lt (by simpa using hBj)).trans hjb3;have j7:Blk w7 wr.heap.size 107 #[.int .i64 q.a.el,.int .i64 q.a.sd,.int .i64 q.b.el,.int .i64 q.b.sd]:=(g7.block _ j6.lt (by simpa using hBj)).trans j6;have j8:Blk w8 wr.heap.size 107 #[.int .i64 q.a.el,.int .i64 q.a.sd,.int .i64 q.b.el,.int .i64 q.b.sd]:=(g8.block _ hjb3.lt (by simpa using hBj)).trans hjb3;have j9:Blk w9 wr.heap.size 107 #[.int .i64 q.a.el,.int .i64 q.a.sd,.int .i64 q.b.el,.int .i64 q.b.sd]:=(g9.block _ j8.lt (by simpa using hBj)).trans j8;have b6:=hal3.grown hr g6 (by omega);have b7:=b6.grown hr g7 (by omega);have b8:=hal3.grown hr g8 (by omega);have b9:=b8.grown hr g9 (by omega);have q6:w6.cell? ⟨wr.heap.size,0,none⟩=some (.int .i64 q.a.el)∧w6.cell? ⟨wr.heap.size,1,none⟩=some (.int .i64 q.a.sd)∧w6.cell? ⟨wr.heap.size,2,none⟩=some (.int .i64 q.b.el)∧w6.cell? ⟨wr.heap.size,3,none⟩=some (.int .i64 q.b.sd):=⟨j6.cell 0,j6.cell 1,j6.cell 2,j6.cell 3⟩
       have q7:w7.cell? ⟨wr.heap.size,0,none⟩=some (.int .i64 q.a.el)∧w7.cell? ⟨wr.heap.size,1,none⟩=some (.int .i64 q.a.sd)∧w7.cell? ⟨wr.heap.size,2,none⟩=some (.int .i64 q.b.el)∧w7.cell? ⟨wr.heap.size,3,none⟩=some (.int .i64 q.b.sd):=⟨j7.cell 0,j7.cell 1,j7.cell 2,j7.cell 3⟩
       have q8:w8.cell? ⟨wr.heap.size,0,none⟩=some (.int .i64 q.a.el)∧w8.cell? ⟨wr.heap.size,1,none⟩=some (.int .i64 q.a.sd)∧w8.cell? ⟨wr.heap.size,2,none⟩=some (.int .i64 q.b.el)∧w8.cell? ⟨wr.heap.size,3,none⟩=some (.int .i64 q.b.sd):=⟨j8.cell 0,j8.cell 1,j8.cell 2,j8.cell 3⟩
       have q9:w9.cell? ⟨wr.heap.size,0,none⟩=some (.int .i64 q.a.el)∧w9.cell? ⟨wr.heap.size,1,none⟩=some (.int .i64 q.a.sd)∧w9.cell? ⟨wr.heap.size,2,none⟩=some (.int .i64 q.b.el)∧w9.cell? ⟨wr.heap.size,3,none⟩=some (.int .i64 q.b.sd):=⟨j9.cell 0,j9.cell 1,j9.cell 2,j9.cell 3⟩
       have q5:W.drew.cell? ⟨wr.heap.size,0,none⟩=some (.int .i64 q.a.el)∧W.drew.cell? ⟨wr.heap.size,1,none⟩=some (.int .i64 q.a.sd)∧W.drew.cell? ⟨wr.heap.size,2,none⟩=some (.int .i64 q.b.el)∧W.drew.cell? ⟨wr.heap.size,3,none⟩=some (.int .i64 q.b.sd):=⟨hjb3.cell 0,hjb3.cell 1,hjb3.cell 2,hjb3.cell 3⟩
       have e7:=h7.ext HUA.out;have e9:=h9.ext HUB.out;clear h6 h7 h8 h9 g6 g7 g8 g9 j6 j7 j8 j9 b6 b8 hst2 hst3 hal2 hal3 hjb2 hjb3;have E7:=hE e7;have E9:=hE e9;have B7:=hE b7;have B9:=hE b9;clear e7 e9 b7 b9;go_region_held3 (fun w'=>w'.cell? ⟨wr.heap.size,0,none⟩=some (.int .i64 q.a.el)∧w'.cell? ⟨wr.heap.size,1,none⟩=some (.int .i64 q.a.sd)∧w'.cell? ⟨wr.heap.size,2,none⟩=some (.int .i64 q.b.el)∧w'.cell? ⟨wr.heap.size,3,none⟩=some (.int .i64 q.b.sd)) (first | assumption) (fail)
       all_goals (go_wp2_with fail)
       all_goals go_roundw
       case rel=>first
        | exact ⟨k+1,by omega,by go_num,B7.out,by rw[HJS.out];exact E7.out.kept (by omega),HX⟩
        | exact ⟨k+1,by omega,by go_num,B9.out,by rw[HJS.out];exact E9.out.kept (by omega),HX⟩
       case measure=>simp[intOf];omega
    ·have HX:=hE (HDO.out (by
      have h:=HB.out
      rwa [tlL (by omega)] at h))
     have hst':z2f wr B (2*k) (z03 v.l.jts):=by
      rw[tlL (by omega)] at hst;exact hst
     go_wp2_with fail;go_ret2
     exact Or.inr ⟨HX.out,B,2*k,rfl,hst',hb.bel⟩
theorem x0i (v:LV) (w:World) (E:y6n w) (hr:LvR w v) (hm3:v.l.jts.length≤140737488351232):Calls Tryz.prog 32 #[lvA v] w fun e w'=>e=.returned (.int .i64 (z8p v.l))∧Below w.heap.size w w':=by
 have hb0:=Lx.new hr;have x0:=hb0.x0;have x1:=hb0.x1;have x2:=hb0.x2;have x3:=hb0.x3;have x4:=hb0.x4;have x5:=hb0.x5;have H1:=hE fun W h=>y3k v W h
 have HJ3:=hE hm3;clear hm3
 cases c0:y8g v.l with
 | false=>
  have HX:=hE (j0z c0);rw[c0] at H1;clear c0;unfold lvA at * ;go_enter Tryz.func32,Tryz.ntmps32
  go_wp2_with fail;refine (H1.out _ hb0.rd).mono ?_;rintro e w1 ⟨rfl,hq1⟩;have hb1:=hb0.now hq1;clear x0 x1 x2 x3 x4 x5 hq1 hb0;have x0:=hb1.x0;have x1:=hb1.x1;have x2:=hb1.x2;have x3:=hb1.x3;have x4:=hb1.x4;have x5:=hb1.x5;go_wp2_with fail
  go_ret
  exact ⟨z0i HX.out.symm,hb1.bel⟩
 | true=>
  obtain ⟨hm2,hm1,hm4,hm5⟩:=j8l c0;have H2:=hE fun W h=>y1l v W h (by omega) (by omega) (by omega)
  have H3:=hE fun W h=>y05 v W h
  have H4:=hE fun W h=>z95 v (by omega) W h
  have H5:=hE fun W E h=>y3t v W E h HJ3.out
  have H6:=hE fun W E h B n he=>z8y v W E h (by omega) B n he
  have H7:=hE fun W h=>z8x v W h (by omega)
  rw[c0] at H1;obtain ⟨c1,hc1⟩:∃ c,nmC v.l=c:=⟨_,rfl⟩
  rw[hc1] at H2;by_cases h1:c1=0;case neg=>
   have HX:=hE (j5k c0 hc1 h1);have hne:(c1 != 0)=true:=by simpa using h1
   clear c0 hc1 h1 H3 H4 H5 H6 H7;unfold lvA at * ;go_enter Tryz.func32,Tryz.ntmps32
   go_wp2_with fail;refine (H1.out _ hb0.rd).mono ?_;rintro e w1 ⟨rfl,hq1⟩;have hb1:=hb0.now hq1;clear x0 x1 x2 x3 x4 x5 hq1 hb0;have x0:=hb1.x0;have x1:=hb1.x1;have x2:=hb1.x2;have x3:=hb1.x3;have x4:=hb1.x4;have x5:=hb1.x5;go_wp2_with fail
   refine (H2.out _ hb1.rd).mono ?_;rintro e w2 ⟨rfl,hq2⟩;have hb2:=hb1.now hq2;clear x0 x1 x2 x3 x4 x5 hq2 hb1;have x0:=hb2.x0;have x1:=hb2.x1;have x2:=hb2.x2;have x3:=hb2.x3;have x4:=hb2.x4;have x5:=hb2.x5;go_wp2_with fail
   go_ret;exact ⟨z0i HX.out.symm,hb2.bel⟩
  subst h1
  cases c2:v.l.els.all (x1v v.l) with
  | false=>
   have HX:=hE (j07 c0 hc1 (by unfold elB;rw[c2];rfl));rw[c2] at H3;clear c0 hc1 c2 H4 H5 H6 H7;unfold lvA at * ;go_enter Tryz.func32,Tryz.ntmps32
   go_wp2_with fail;refine (H1.out _ hb0.rd).mono ?_;rintro e w1 ⟨rfl,hq1⟩;have hb1:=hb0.now hq1;clear x0 x1 x2 x3 x4 x5 hq1 hb0;have x0:=hb1.x0;have x1:=hb1.x1;have x2:=hb1.x2;have x3:=hb1.x3;have x4:=hb1.x4;have x5:=hb1.x5;go_wp2_with fail
   refine (H2.out _ hb1.rd).mono ?_;rintro e w2 ⟨rfl,hq2⟩;have hb2:=hb1.now hq2;clear x0 x1 x2 x3 x4 x5 hq2 hb1;have x0:=hb2.x0;have x1:=hb2.x1;have x2:=hb2.x2;have x3:=hb2.x3;have x4:=hb2.x4;have x5:=hb2.x5;go_wp2_with fail
   refine (H3.out _ hb2.rd).mono ?_;rintro e w3 ⟨rfl,hq3⟩;have hb3:=hb2.now hq3;clear x0 x1 x2 x3 x4 x5 hq3 hb2;have x0:=hb3.x0;have x1:=hb3.x1;have x2:=hb3.x2;have x3:=hb3.x3;have x4:=hb3.x4;have x5:=hb3.x5;go_wp2_with fail
   go_ret
   exact ⟨z0i HX.out.symm,hb3.bel⟩
  | true=>
   rw[c2] at H3
   cases c3:j4t v.l with
   | false=>
    have HX:=hE (j07 c0 hc1 (by unfold elB;rw[c2,c3];rfl));rw[c3] at H4;clear c0 hc1 c2 c3 H5 H6 H7;unfold lvA at * ;go_enter Tryz.func32,Tryz.ntmps32
    go_wp2_with fail;refine (H1.out _ hb0.rd).mono ?_;rintro e w1 ⟨rfl,hq1⟩;have hb1:=hb0.now hq1;clear x0 x1 x2 x3 x4 x5 hq1 hb0;have x0:=hb1.x0;have x1:=hb1.x1;have x2:=hb1.x2;have x3:=hb1.x3;have x4:=hb1.x4;have x5:=hb1.x5;go_wp2_with fail
    refine (H2.out _ hb1.rd).mono ?_;rintro e w2 ⟨rfl,hq2⟩;have hb2:=hb1.now hq2;clear x0 x1 x2 x3 x4 x5 hq2 hb1;have x0:=hb2.x0;have x1:=hb2.x1;have x2:=hb2.x2;have x3:=hb2.x3;have x4:=hb2.x4;have x5:=hb2.x5;go_wp2_with fail
    refine (H3.out _ hb2.rd).mono ?_;rintro e w3 ⟨rfl,hq3⟩;have hb3:=hb2.now hq3;clear x0 x1 x2 x3 x4 x5 hq3 hb2;have x0:=hb3.x0;have x1:=hb3.x1;have x2:=hb3.x2;have x3:=hb3.x3;have x4:=hb3.x4;have x5:=hb3.x5;go_wp2_with fail
    refine (H4.out _ hb3.rd).mono ?_;rintro e w4 ⟨rfl,hq4⟩;have hb4:=hb3.now hq4;clear x0 x1 x2 x3 x4 x5 hq4 hb3;have x0:=hb4.x0;have x1:=hb4.x1;have x2:=hb4.x2;have x3:=hb4.x3;have x4:=hb4.x4;have x5:=hb4.x5;go_wp2_with fail
    go_ret
    exact ⟨z0i HX.out.symm,hb4.bel⟩
   | true=>
    rw[c3] at H4;have he:elB v.l=true:=by unfold elB;rw[c2,c3];rfl
    by_cases h5:jnC v.l=0;case neg=>
     obtain ⟨c5,hc5⟩:∃ c,jnC v.l=c:=⟨_,rfl⟩
     have HX:=hE (j5j c0 hc1 he hc5 (by rw[←hc5];exact h5));have hne:(c5 != 0)=true:=by rw[←hc5];simpa using h5
     have HJP:Hid (∀ e w W',y33 w v.l e W'→e=.returned (.tuple #[.map none,.int .i64 c5])∧Below w.heap.size w W'):=hE fun e w W' h=>by
      rcases h with ⟨_,h1,h2⟩ | ⟨h0,_⟩
      ·exact ⟨by rw[←hc5];exact h1,h2⟩
      ·exact absurd h0 h5
     clear c0 hc1 c2 c3 he h5 hc5 H6 H7;unfold lvA at * ;go_enter Tryz.func32,Tryz.ntmps32
     go_wp2_with fail;refine (H1.out _ hb0.rd).mono ?_;rintro e w1 ⟨rfl,hq1⟩;have hb1:=hb0.now hq1;clear x0 x1 x2 x3 x4 x5 hq1 hb0;have x0:=hb1.x0;have x1:=hb1.x1;have x2:=hb1.x2;have x3:=hb1.x3;have x4:=hb1.x4;have x5:=hb1.x5;go_wp2_with fail
     refine (H2.out _ hb1.rd).mono ?_;rintro e w2 ⟨rfl,hq2⟩;have hb2:=hb1.now hq2;clear x0 x1 x2 x3 x4 x5 hq2 hb1;have x0:=hb2.x0;have x1:=hb2.x1;have x2:=hb2.x2;have x3:=hb2.x3;have x4:=hb2.x4;have x5:=hb2.x5;go_wp2_with fail
     refine (H3.out _ hb2.rd).mono ?_;rintro e w3 ⟨rfl,hq3⟩;have hb3:=hb2.now hq3;clear x0 x1 x2 x3 x4 x5 hq3 hb2;have x0:=hb3.x0;have x1:=hb3.x1;have x2:=hb3.x2;have x3:=hb3.x3;have x4:=hb3.x4;have x5:=hb3.x5;go_wp2_with fail
     refine (H4.out _ hb3.rd).mono ?_;rintro e w4 ⟨rfl,hq4⟩;have hb4:=hb3.now hq4;clear x0 x1 x2 x3 x4 x5 hq4 hb3;have x0:=hb4.x0;have x1:=hb4.x1;have x2:=hb4.x2;have x3:=hb4.x3;have x4:=hb4.x4;have x5:=hb4.x5;go_wp2_with fail
     refine (H5.out _ (E.now hb4.bel) hb4.rd).mono ?_;intro e w5 hpost;obtain ⟨rfl,hq5⟩:=HJP.out _ _ _ hpost;clear hpost;have hb5:=hb4.now hq5;clear x0 x1 x2 x3 x4 x5 hq5 hb4;have x0:=hb5.x0;have x1:=hb5.x1;have x2:=hb5.x2;have x3:=hb5.x3;have x4:=hb5.x4;have x5:=hb5.x5;go_wp2_with fail
     go_ret;exact ⟨z0i HX.out.symm,hb5.bel⟩
    have HJP:Hid (∀ e w W',y33 w v.l e W'→∃ B n,e=.returned (.tuple #[.map (some B),.int .i64 0])∧z2f W' B n (z03 v.l.jts)∧Below w.heap.size w W'):=hE fun e w W' h=>by
     rcases h with ⟨h0,_⟩ | ⟨_,h⟩
     ·exact absurd h5 h0
     ·exact h
    obtain ⟨c6,hc6⟩:∃ c,sgC v.l=c:=⟨_,rfl⟩
    rw[hc6] at H6;by_cases h6:c6=0;case neg=>
     have HX:=hE (j5l c0 hc1 he h5 hc6 h6);have hne:(c6 != 0)=true:=by simpa using h6
     clear c0 hc1 c2 c3 he h5 hc6 h6 H7;unfold lvA at * ;go_enter Tryz.func32,Tryz.ntmps32
     go_wp2_with fail;refine (H1.out _ hb0.rd).mono ?_;rintro e w1 ⟨rfl,hq1⟩;have hb1:=hb0.now hq1;clear x0 x1 x2 x3 x4 x5 hq1 hb0;have x0:=hb1.x0;have x1:=hb1.x1;have x2:=hb1.x2;have x3:=hb1.x3;have x4:=hb1.x4;have x5:=hb1.x5;go_wp2_with fail
     refine (H2.out _ hb1.rd).mono ?_;rintro e w2 ⟨rfl,hq2⟩;have hb2:=hb1.now hq2;clear x0 x1 x2 x3 x4 x5 hq2 hb1;have x0:=hb2.x0;have x1:=hb2.x1;have x2:=hb2.x2;have x3:=hb2.x3;have x4:=hb2.x4;have x5:=hb2.x5;go_wp2_with fail
     refine (H3.out _ hb2.rd).mono ?_;rintro e w3 ⟨rfl,hq3⟩;have hb3:=hb2.now hq3;clear x0 x1 x2 x3 x4 x5 hq3 hb2;have x0:=hb3.x0;have x1:=hb3.x1;have x2:=hb3.x2;have x3:=hb3.x3;have x4:=hb3.x4;have x5:=hb3.x5;go_wp2_with fail
     refine (H4.out _ hb3.rd).mono ?_;rintro e w4 ⟨rfl,hq4⟩;have hb4:=hb3.now hq4;clear x0 x1 x2 x3 x4 x5 hq4 hb3;have x0:=hb4.x0;have x1:=hb4.x1;have x2:=hb4.x2;have x3:=hb4.x3;have x4:=hb4.x4;have x5:=hb4.x5;go_wp2_with fail
     refine (H5.out _ (E.now hb4.bel) hb4.rd).mono ?_;intro e w5 hpost;obtain ⟨B,n,rfl,hE5,hq5⟩:=HJP.out _ _ _ hpost;clear hpost;have hb5:=hb4.now hq5;clear x0 x1 x2 x3 x4 x5 hq5 hb4;have x0:=hb5.x0;have x1:=hb5.x1;have x2:=hb5.x2;have x3:=hb5.x3;have x4:=hb5.x4;have x5:=hb5.x5;go_wp2_with fail
     refine (H6.out _ (E.now hb5.bel) hb5.rd B n hE5).mono ?_;rintro e w6 ⟨rfl,hq6⟩;clear hE5;have hb6:=hb5.now hq6;clear x0 x1 x2 x3 x4 x5 hq6 hb5;have x0:=hb6.x0;have x1:=hb6.x1;have x2:=hb6.x2;have x3:=hb6.x3;have x4:=hb6.x4;have x5:=hb6.x5;go_wp2_with fail
     go_ret;exact ⟨z0i HX.out.symm,hb6.bel⟩
    subst h6;have HX:=hE (j5i c0 hc1 he h5 hc6);clear c0 hc1 c2 c3 he h5 hc6;unfold lvA at * ;go_enter Tryz.func32,Tryz.ntmps32
    go_wp2_with fail;refine (H1.out _ hb0.rd).mono ?_;rintro e w1 ⟨rfl,hq1⟩;have hb1:=hb0.now hq1;clear x0 x1 x2 x3 x4 x5 hq1 hb0;have x0:=hb1.x0;have x1:=hb1.x1;have x2:=hb1.x2;have x3:=hb1.x3;have x4:=hb1.x4;have x5:=hb1.x5;go_wp2_with fail
    refine (H2.out _ hb1.rd).mono ?_;rintro e w2 ⟨rfl,hq2⟩;have hb2:=hb1.now hq2;clear x0 x1 x2 x3 x4 x5 hq2 hb1;have x0:=hb2.x0;have x1:=hb2.x1;have x2:=hb2.x2;have x3:=hb2.x3;have x4:=hb2.x4;have x5:=hb2.x5;go_wp2_with fail
    refine (H3.out _ hb2.rd).mono ?_;rintro e w3 ⟨rfl,hq3⟩;have hb3:=hb2.now hq3;clear x0 x1 x2 x3 x4 x5 hq3 hb2;have x0:=hb3.x0;have x1:=hb3.x1;have x2:=hb3.x2;have x3:=hb3.x3;have x4:=hb3.x4;have x5:=hb3.x5;go_wp2_with fail
    refine (H4.out _ hb3.rd).mono ?_;rintro e w4 ⟨rfl,hq4⟩;have hb4:=hb3.now hq4;clear x0 x1 x2 x3 x4 x5 hq4 hb3;have x0:=hb4.x0;have x1:=hb4.x1;have x2:=hb4.x2;have x3:=hb4.x3;have x4:=hb4.x4;have x5:=hb4.x5;go_wp2_with fail
    refine (H5.out _ (E.now hb4.bel) hb4.rd).mono ?_;intro e w5 hpost;obtain ⟨B,n,rfl,hE5,hq5⟩:=HJP.out _ _ _ hpost;clear hpost;have hb5:=hb4.now hq5;clear x0 x1 x2 x3 x4 x5 hq5 hb4;have x0:=hb5.x0;have x1:=hb5.x1;have x2:=hb5.x2;have x3:=hb5.x3;have x4:=hb5.x4;have x5:=hb5.x5;go_wp2_with fail
    refine (H6.out _ (E.now hb5.bel) hb5.rd B n hE5).mono ?_;rintro e w6 ⟨rfl,hq6⟩;clear hE5;have hb6:=hb5.now hq6;clear x0 x1 x2 x3 x4 x5 hq6 hb5;have x0:=hb6.x0;have x1:=hb6.x1;have x2:=hb6.x2;have x3:=hb6.x3;have x4:=hb6.x4;have x5:=hb6.x5;go_wp2_with fail
    refine (H7.out _ hb6.rd).mono ?_;rintro e w7 ⟨rfl,hq7⟩;have hb7:=hb6.now hq7;clear x0 x1 x2 x3 x4 x5 hq7 hb6;have x0:=hb7.x0;have x1:=hb7.x1;have x2:=hb7.x2;have x3:=hb7.x3;have x4:=hb7.x4;have x5:=hb7.x5;go_wp2_with fail
    go_ret;exact ⟨z0i HX.out.symm,hb7.bel⟩
end Go.Proofs.YtpenlfedkacglaaGreatDoor
namespace Go.Proofs.YtpenlfedkacglaaGreatDoor
open Go.RowKit
attribute [local go_sem] z05 z07 z01 z02
attribute [-go_sem] run_equalIn_agg
attribute [-go_sem] loadCellsFrom
theorem x58 {α:Type} {c:Cod α} {w:World} {S:Nat→Prop} (h1:∀ (ys:List Value) (x:α),c.rd w S ys x→∀ u∈ys,u.oneCell' = true):∀ {l:List α} {xs:List Value},RdC c w S xs l→∀ u∈xs,u.oneCell' = true
 | [],xs,h,u,hu=>by have h:xs=[]:=h;subst h;cases hu
 | a::l,xs,⟨y,z,e,h2,h3⟩,u,hu=>by
  subst e;rcases List.mem_append.1 hu with hu | hu
  ·exact h1 y a h2 u hu
  ·exact x58 h1 h3 u hu
theorem RdC.join {α:Type} {c:Cod α} {w:World} {S:Nat→Prop}:∀ {l m:List α} {xs ys:List Value},RdC c w S xs l→RdC c w S ys m→RdC c w S (xs++ys) (l++m)
 | [],m,xs,ys,h,h2=>by have h:xs=[]:=h;subst h;exact h2
 | a::l,m,xs,ys,⟨y,z,e,h3,h4⟩,h2=>⟨y,z++ys,by rw[e,List.append_assoc],h3,RdC.join h4 h2⟩
section
variable {P:Program} {α:Type} {c:Cod α}
theorem y0o (w:World) (base base2:Nat) (t ty e:TypeId) (i:TypeInfo) (z:Value) (bytes:Nat) (ht:P.underlying t=some (.slice e)) (hi:P.info? e=some i) (hz:i.zero=some z) (hsize:i.size=c.size) (hby:i.bytes=bytes) (hzs:z.cells.size=c.size) (hc:0 < c.size)
  (v v2:Value) (l l2:List α) (B B2:Nat) (hown:z09 c w base e v l B) (hown2:z09 c w base2 e v2 l2 B2) (h1:∀ (ys:List Value) (x:α),c.rd w (Sep w e w.heap.size) ys x→∀ u∈ys,u.oneCell' = true) (hlen:l.length+l2.length≤100000) (hbl:bytes≤1000) (hbase:base≤w.heap.size) :
  ∃ v' w',(Builtin.append_ #[t,t] ty #[v,v2]).run P w=.ok v' w'∧(∃ B',z09 c w' base e v' (l++l2) B')∧Frm base e w w':=by
 obtain ⟨xs,h3,h4,h5⟩:=hown.raise (by obtain ⟨_,_,_,h⟩:=hown;exact h) nL;obtain ⟨xs2,k3,k4,k5⟩:=hown2.raise (by obtain ⟨_,_,_,h⟩:=hown2;exact h) nL;rcases k3.2 with ⟨rfl,h0⟩ | ⟨g,cap,cur,rfl,hb,hg,hcap,hm,hsz,htake⟩
 ·have hl2:l2=[]:=List.eq_nil_of_length_eq_zero h0;subst hl2;have hrun:=z7a (P:=P) w base t ty e i c.size ht hi v l.length xs h3 0;exact ⟨v,w,hrun,⟨w.heap.size,by rw[List.append_nil];exact ⟨xs,h3,h4,nL⟩⟩,Frm.refl _ _ _⟩
 ·have hxl:xs2.length=l2.length*c.size:=k4.len;obtain ⟨v',w',hrun,h6,h7,-⟩:=z6z (P:=P) w base t ty e i z c.size bytes ht hi hz hsize hby hzs hc v l.length xs h3 ⟨g,0,none⟩ l2.length cap xs2 hxl (fun j u hj=>by
   rw[z0g,cell_of_row w g _ cur e (0,0) hg];rw[←htake,List.getElem?_take] at hj;split at hj
   ·simpa using hj
   ·cases hj) (x58 h1 k4) (by unfold maxLen;omega) (nR (Nat.mul_le_mul (show l.length+l2.length≤1000000 by omega) hbl) (by omega)) hbase
  have hf:=y2g h3 h7;have hs:∀ b,Sep w e w.heap.size b→w'.heap[b]? = w.heap[b]?:=fun b hb=>by
   have hlt:b < w.heap.size:=hb.1;have ho:w.heap[b]? = some w.heap[b]:=agE hlt;rw[hf.obj b _ ho fun cs fr hx=>hb.2 cs fr (by rw[ho,hx]),ho]
  have key:RdC c w (Sep w e w.heap.size) (xs++xs2) (l++l2):=h4.join k4;exact ⟨v',w',hrun,⟨w'.heap.size,xs++xs2,by rw[qL];exact h6,(key.keep fun p hp=>z0k (hs _ hp)).more fun b hb=>⟨nT hb.1 hf.size,fun cs fr hx=>hb.2 cs fr (by rw[←hs b hb];exact hx)⟩,nL⟩,hf⟩
theorem z7x (w:World) {ops:Array Oper} {rest:List Oper} {o:Oper} {a:Act} {Q:Exit→Act→World→Prop} (hgd:o.guard=none) (s x:Operand) (t:TypeId)
  (ho:o.op=.call { callee:=.builtin .append,args:=#[s,x],argTypes:=#[t,t] })
  (base base2:Nat) (e:TypeId) (i:TypeInfo) (z:Value) (bytes:Nat) (ht:P.underlying t=some (.slice e)) (hi:P.info? e=some i) (hz:i.zero=some z) (hsize:i.size=c.size) (hby:i.bytes=bytes) (hzs:z.cells.size=c.size) (hc:0 < c.size)
  (v v2:Value) (l l2:List α) (B B2:Nat) (hs:a.eval s=v) (hx:a.eval x=v2) (hown:z09 c w base e v l B) (hown2:z09 c w base2 e v2 l2 B2) (h1:∀ (ys:List Value) (x:α),c.rd w (Sep w e w.heap.size) ys x→∀ u∈ys,u.oneCell' = true) (hlen:l.length+l2.length≤100000) (hbl:bytes≤1000) (hbase:base≤w.heap.size)
  (h:∀ v' w',(∃ B',z09 c w' base e v' (l++l2) B')→Frm base e w w'→wpList P ops Q rest (a.put o.dst v') w'):wpList P ops Q (o::rest) a w:=by
 refine wpList_plain hgd fun K hK=>?_
 obtain ⟨v',w',hrun,h2,h3⟩:=y0o (P:=P) (c:=c) w base base2 t o.type e i z bytes ht hi hz hsize hby hzs hc v v2 l l2 B B2 hown hown2 h1 hlen hbl hbase;unfold Oper.wp execOp;simp only[ho,resolve,invoke,builtin,Sem.run_bind,Sem.run_pure,Result.andThen_ok,List.map_toArray,List.map_cons,List.map_nil,hs,hx,hrun];exact hK _ _ (h v' w' h2 h3)
end
def x6e (l:Lay) (k:Nat):List Rou:=(List.range k).flatMap fun (i:Nat)=>z4h l (i:Int)
theorem y4s (l:Lay) (k:Nat):x6e l (k+1)=x6e l k++z4h l (k:Int):=by unfold x6e;rw[List.range_succ,List.flatMap_append];simp
theorem y8o (l:Lay) (i:Int):(z4h l i).length≤4096:=by
 unfold z4h;split
 ·rw[z5t,List.length_map];exact z6f l 12 [] _
 ·simp
theorem y3a (l:Lay):∀ k,(x6e l k).length≤4096*k
 | 0=>by simp[x6e]
 | k+1=>by rw[y4s,qL];have:=y3a l k;have:=y8o l (k:Int);omega
def j9w (v:LV) (w:World) (e:Ending) (w':World):Prop:=(z8p v.l≠0∧e=.returned (.tuple #[.slice none 0 0,.int .i64 (z8p v.l)])∧Below w.heap.size w w')∨(z8p v.l=0∧48 < (y1g v.l).length∧e=.returned (.tuple #[.slice none 0 0,.int .i64 2])∧Below w.heap.size w w')∨(z8p v.l=0∧(y1g v.l).length≤48∧∃ rs,e=.returned (.tuple #[rs,.int .i64 0])∧(∃ B,z09 cR w' w.heap.size 56 rs (y1g v.l) B)∧Below w.heap.size w w')
theorem j0n (v:LV) (w:World) (E:y6n w) (hr:LvR w v) (hm3:v.l.jts.length≤140737488351232):Calls Tryz.prog 14 #[lvA v] w (j9w v w):=by
 obtain ⟨iR,hiR,hR0,hR1,hR2⟩:=info_parts y0m;obtain ⟨W2,hW2⟩:∃ W,W=w.alloc (.cells (z1c v) 28):=⟨_,rfl⟩
 have hb2:Below w.heap.size w W2:=by rw[hW2];exact bQ.alloc nL _
 have hx2:Blk W2 w.heap.size 28 (z1c v):=by rw[hW2];exact Blk.new _ _ _ _ rfl
 have HCK:=hE (x0i v W2 (E.now hb2) (hr.now hb2) hm3);have ld0:=z04 hx2 6 rfl;unfold lvA at HCK ⊢;obtain ⟨ck,hck⟩:∃ c,z8p v.l=c:=⟨_,rfl⟩
 rw[hck] at HCK;have HCE:=hE hck;clear hck;go_enter Tryz.func14,Tryz.ntmps14
 go_upto_region 1 with (fail)
 rw[←hW2];clear hW2;go_wp2_with fail
 refine HCK.out.mono ?_;rintro en w3 ⟨rfl,hq3⟩;have hb3:=z00 hb2 hb2.size hq3;have hx3:=hx2.now hq3;clear ld0 HCK hq3 hx2 hb2;by_cases hc:ck=0;case neg=>
  have t1:(ck != 0)=true:=by simp[hc]
  have HX:=hE (show z8p v.l≠0 by rw[HCE.out];exact hc);clear hc hx3;go_wp2_with fail
  go_ret2
  exact Or.inl ⟨HX.out,y2v HCE.out.symm,hb3⟩
 case pos=>
  subst hc;have hK:=j7x HCE.out;have hng:=hK.ng;have x4:=hx3.cell 4;have lx:=hx3.lt;simp only[gqA,gqZ,gqS] at x4;have HB3:=hE (aIq hx3 hb3);clear hx3 hb3;go_wp2_with fail
  go_loopw [5,15] (fun rs n wr=>∃ k:Nat,n=.int .i64 k∧k≤v.l.sgs.length∧(∃ B,z09 cR wr w3.heap.size 56 rs (x6e v.l k) B)∧Blk wr w.heap.size 28 (z1c v)∧w3.heap.size≤wr.heap.size∧Below w.heap.size w wr) (fun _ n _=>v.l.sgs.length - (intOf n).toNat)
  case atStart=>exact ⟨0,rfl,nZ,⟨0,z09.nil _ _ _ _ nZ⟩,HB3.out.1,nL,HB3.out.2⟩
  case round=>
   obtain ⟨k,rfl,hkl,hown,hx,hsz,hb⟩:=hrel;clear x4 lx;by_cases hlt:k < v.l.sgs.length;case neg=>
    have hki:¬(k:Int) < (v.l.sgs.length:Int):=by omega
    obtain rfl:k=v.l.sgs.length:=by omega
    have HAF:=hE (show y1g v.l=x6e v.l v.l.sgs.length from rfl);obtain ⟨B,hown⟩:=hown;have HO:=hE hown;obtain ⟨A9,c9,hv9⟩:=hown.form;have hll:=y3a v.l v.l.sgs.length;have HSZ:=hE (nR HB3.out.2.size (Nat.le_refl w3.heap.size));clear hown hx hlt;subst hv9;generalize x6e v.l v.l.sgs.length=ns at *;by_cases h48:48 < ns.length
    ·have t1:decide (48 < (ns.length:Int))=true:=by simp;omega
     have h48i:48 < (ns.length:Int):=by omega
     go_wp2_with fail;go_ret2
     exact Or.inr (Or.inl ⟨HCE.out,by rw[HAF.out];exact h48,rfl,hb⟩)
    ·have t1:decide (48 < (ns.length:Int))=false:=by simp;omega
     have h48i:¬48 < (ns.length:Int):=by omega
     go_wp2_with fail;go_ret2
     exact Or.inr (Or.inr ⟨HCE.out,by rw[HAF.out];omega,_,rfl,⟨B,by rw[HAF.out];exact HO.out.lower HSZ.out⟩,hb⟩)
   case pos=>
    have hki:(k:Int) < (v.l.sgs.length:Int):=by omega
    have hk1:k+1≤v.l.sgs.length:=hlt;have HFR:=hE (x7l v k hlt wr (E.now hb).toEnvR hK (hr.now hb));unfold lvA at HFR;have ld0:=z04 hx 6 rfl;obtain ⟨B,hown⟩:=hown;have HO:=hE hown;have hl1:=y3a v.l k;have hl2:=y8o v.l (k:Int);have HST:=hE (y4s v.l k);clear hown;go_upto_region 8 with (fail)
    generalize z4h v.l (k:Int)=f2 at *;generalize x6e v.l k=ns at *;have hsum:ns.length+f2.length≤100000:=by omega
    go_wp2_with (first | (go_at_call 33;refine HFR.out.mono ?_;rintro en w5 ⟨r5,rfl,⟨B5,ho5⟩,hq5⟩;have ho1:=HO.out.now hq5;have hbw:=nR hsz hq5.size) | (at_builtin;refine z7x (c:=cR) _ rfl _ _ 30 rfl w3.heap.size wr.heap.size 56 iR _ 264 Tryz.underlying30 hiR hR0 hR1 hR2 rfl (by decide) _ _ ns f2 B B5 rfl rfl ho1 ho5 (fun ys x h=>z4m ys x h) hsum (by omega) hbw ?_;intro v' w7 ho7 hf7))
    go_roundw
    case rel=>
     have hbq:=z00 hb hb.size hq5;exact ⟨k+1,by go_num,hk1,by rw[HST.out];exact ho7,hf7.blk (hx.now hq5) (by decide),nR hbw hf7.size,hf7.keeps (nR HB3.out.2.size nL) hbq.size hbq⟩
    case measure=>simp[intOf];omega
end Go.Proofs.YtpenlfedkacglaaGreatDoor
namespace Go.Proofs.YtpenlfedkacglaaGreatDoor
open Go.RowKit
attribute [local go_sem] z05 z07 z01 z02
attribute [-go_sem] run_equalIn_agg
theorem y06 {t:Tab} {s:Itr} (h:Fits t s):y1h t s=true:=by
 rw[y3m h.chk h.l1 h.l2,uT,laT,laT];refine ⟨fun p hp=>?_,fun p hp=>?_⟩
 ·obtain ⟨i,hi,rfl⟩:=List.getElem_of_mem hp;rw[List.length_zip] at hi;have:=h.st i (by omega) (by omega);simpa using this
 ·obtain ⟨i,hi,rfl⟩:=List.getElem_of_mem hp;rcases h.ly i hi with h | h <;> rw[h] <;> rfl
theorem y0h (v:z1w) (u:z1r) (k:Nat) (w:World) (hr:TvR w v) (hs:y1j w u) (hS:y4p v.t) (hF:Fits v.t u.i) (hlt:k < v.t.rts.length):Calls Tryz.prog 20 #[.agg (z0t v),.agg (z1v u),.int .i64 (k:Int)] w (y35 cI 3 w (z1p (z0r v.t k) (z1d u.i k))):=by
 have hltu:k < u.i.rts.length:=by rw[hF.l1];exact hlt
 have hki:(k:Int) < (v.t.rts.length:Int):=by omega
 have hki0:¬(k:Int) < 0:=by omega
 have hki2:¬(v.t.rts.length:Int)≤(k:Int):=by omega
 have hkiu:(k:Int) < (u.i.rts.length:Int):=by omega
 obtain ⟨W2,hW2⟩:∃ W,W=(w.alloc (.cells (z0t v) 33)).alloc (.cells (z1v u) 41):=⟨_,rfl⟩
 have hb2:Below w.heap.size w W2:=by rw[hW2];exact (bQ.alloc nL _).alloc (by simp) _
 have hx0:Blk W2 w.heap.size 33 (z0t v):=by rw[hW2];exact (Blk.new _ _ _ _ rfl).alloc _
 have hx1:Blk W2 (w.heap.size+1) 41 (z1v u):=by rw[hW2];exact Blk.new _ _ _ _ (by simp)
 have HFT:=hE (fits_any v u W2 (hr.now hb2) (hs.now hb2) hS.ok);rw[y06 hF] at HFT;have hn1:=hs.n1.1;have hm1:=hr.n1.1;unfold maxLen at hn1 hm1;have hsec:=hS _ (uE hlt);have hfit:=hF.st k hltu hlt;have hpos:=z3x hF.chk hlt;have hck:=hF.chk;have hre1:=z2u hlt;have hre2:=z5g hltu;go_enter Tryz.func20,Tryz.ntmps20
 go_wp2_with fail;rw[←hW2];clear hW2;refine HFT.out.mono ?_;rintro e w3 ⟨rfl,hq3⟩;have hb3:=z00 hb2 hb2.size hq3;have bxt:=hx0.now hq3;have bxi:=hx1.now hq3;clear hx0 hx1 hb2 HFT hq3;obtain ⟨bS,offS,hAS,lbS,hoS,z0,z1,z2⟩:=(hs.now hb3).r1.elX hltu;obtain ⟨b2,off2,rv,hA2,lb2,hre,hrv,q0,q1,q2,q3,q4,q5,q6,q7,q8,q9,q10,q11,q12,q13⟩:=(hr.now hb3).r1.elR hlt;have hmem:rv.r∈v.t.rts:=by rw[hre];exact uE hlt
 rw[←hre] at hsec hfit hpos hre1;rw[←hre2] at hfit z0 z1 z2;have hrel:=y2u hfit hpos;have HRS:Hid (z1p rv.r (z1d u.i k)=z1p (z0r v.t k) (z1d u.i k)):=hE (by rw[hre1]);clear hre hre1 hre2;generalize z1d u.i k=x at *;obtain ⟨pa,hpa⟩:∃ p,off2+k*14=p:=⟨_,rfl⟩
 rw[hpa] at q0 q1 q2 q3 q4 q5 q6 q7 q8 q9 q10 q11 q12 q13;obtain ⟨ps,hps⟩:∃ p,offS+k*3=p:=⟨_,rfl⟩
 rw[hps] at z0 z1 z2;have HC:=hE fun W' (h:Below w3.heap.size w3 W')=>y9g rv x W' (hrv.now h) hrel (by have:=hsec.n3;omega)
 have lxt:=bxt.lt;have lxi:=bxi.lt;have lbS':bS < w3.heap.size:=lbS;have lb2':b2 < w3.heap.size:=lb2;have HSS:Hid (∀ W,Below w3.heap.size w3 W→(fun w'=>w'.cell? ⟨w.heap.size,0,none⟩=some (.slice (some ⟨b2,off2,none⟩) v.t.rts.length v.c1)∧w'.cell? ⟨w.heap.size+1,0,none⟩=some (.slice (some ⟨bS,offS,none⟩) u.i.rts.length u.c1)∧w'.cell? ⟨b2,pa,none⟩=some (.string (bs rv.r.name))∧w'.cell? ⟨b2,pa+1,none⟩=some (.int .i64 rv.r.ent)∧w'.cell? ⟨b2,pa+2,none⟩=some (.int .i64 rv.r.ext)∧w'.cell? ⟨b2,pa+3,none⟩=some (.slice rv.A1 rv.r.path.length rv.c1)∧w'.cell? ⟨b2,pa+4,none⟩=some (.slice rv.A2 rv.r.pts.length rv.c2)∧w'.cell? ⟨b2,pa+5,none⟩=some (.slice rv.A3 rv.r.secs.length rv.c3)∧w'.cell? ⟨b2,pa+6,none⟩=some (.int .i64 rv.r.app)∧w'.cell? ⟨b2,pa+7,none⟩=some (.int .i64 rv.r.len)∧w'.cell? ⟨b2,pa+8,none⟩=some (.slice rv.A4 rv.r.over.length rv.c4)∧w'.cell? ⟨b2,pa+9,none⟩=some (.slice rv.A5 rv.r.opts.length rv.c5)∧w'.cell? ⟨b2,pa+10,none⟩=some (.slice rv.A6 rv.r.osecs.length rv.c6)∧w'.cell? ⟨b2,pa+11,none⟩=some (.slice rv.A7 rv.r.flk.length rv.c7)∧w'.cell? ⟨b2,pa+12,none⟩=some (.slice rv.A8 rv.r.grd.length rv.c8)∧w'.cell? ⟨b2,pa+13,none⟩=some (.slice rv.A9 rv.r.gap.length rv.c9)∧w'.cell? ⟨bS,ps,none⟩=some (.int .i64 x.st)∧w'.cell? ⟨bS,ps+1,none⟩=some (.int .i64 x.rel)∧w'.cell? ⟨bS,ps+2,none⟩=some (.int .i64 x.tim)∧Below w3.heap.size w3 w') W):=hE fun W h=>⟨(h.cell (p:=⟨w.heap.size,0,none⟩) lxt).trans ((bxt.cell 0).trans (by unfold z0t;rw[hA2];rfl)),(h.cell (p:=⟨w.heap.size+1,0,none⟩) lxi).trans ((bxi.cell 0).trans (by unfold z1v;rw[hAS];rfl)),(h.cell (p:=⟨b2,pa,none⟩) lb2').trans (q0),(h.cell (p:=⟨b2,pa+1,none⟩) lb2').trans (q1),(h.cell (p:=⟨b2,pa+2,none⟩) lb2').trans (q2),(h.cell (p:=⟨b2,pa+3,none⟩) lb2').trans (q3),(h.cell (p:=⟨b2,pa+4,none⟩) lb2').trans (q4),(h.cell (p:=⟨b2,pa+5,none⟩) lb2').trans (q5),(h.cell (p:=⟨b2,pa+6,none⟩) lb2').trans (q6),(h.cell (p:=⟨b2,pa+7,none⟩) lb2').trans (q7),(h.cell (p:=⟨b2,pa+8,none⟩) lb2').trans (q8),(h.cell (p:=⟨b2,pa+9,none⟩) lb2').trans (q9),(h.cell (p:=⟨b2,pa+10,none⟩) lb2').trans (q10),(h.cell (p:=⟨b2,pa+11,none⟩) lb2').trans (q11),(h.cell (p:=⟨b2,pa+12,none⟩) lb2').trans (q12),(h.cell (p:=⟨b2,pa+13,none⟩) lb2').trans (q13),(h.cell (p:=⟨bS,ps,none⟩) lbS').trans (z0),(h.cell (p:=⟨bS,ps+1,none⟩) lbS').trans (z1),(h.cell (p:=⟨bS,ps+2,none⟩) lbS').trans (z2),h⟩
 have X0:=(bxt.cell 0).trans (by unfold z0t;rw[hA2];rfl:_=some (Value.slice (some ⟨b2,off2,none⟩) v.t.rts.length v.c1));clear hA2 hAS q0 q1 q2 q3 q4 q5 q6 q7 q8 q9 q10 q11 q12 q13 z0 z1 z2 hoS hrv hmem hsec hfit hpos hrel hck bxt bxi;go_wp2_with fail
 refine rgS 12 HSS fun hHeld=>?_
 refine tkM 10 [0,1,2,3,4,5,6,7,8,9] ?_;refine rd1 10 rfl fun K hK=>?_
 go_simp;go_at_call 51
 refine (HC.out _ bQ.drew).mono ?_;rintro e w7 ⟨A7,c7,rfl,ho7,hq7⟩;have hq7':Below w3.heap.size w3 w7:=bQ.drew.trans hq7;go_wp2_with fail
 refine hK.out _ _ (HSS.out _ hq7') (fun hHeld=>?_);clear hK K;try simp only[Act.put,lsa,lsz,lss]
 refine tkM 1 [11] ?_;refine wdn ?_;have hb7:=z00 hb3 hb3.size hq7';have ho77:=ho7.lower hb3.size;clear HSS HC hq7 hq7' ho7 hHeld;go_wp2_with fail
 go_ret;exact z0x HRS.out rfl ho77 hb7
theorem x0g (v:z1w) (u:z1r) (k:Nat) (w:World) (hr:TvR w v) (hs:y1j w u) (hS:y4p v.t) (hF:Fits v.t u.i) (hlt:k < v.t.rts.length):Calls Tryz.prog 29 #[.agg (z0t v),.agg (z1v u),.int .i64 (k:Int)] w (y35 z2x 78 w (z4s v.t (z0r v.t k) (z1d u.i k))):=by
 have hltu:k < u.i.rts.length:=by rw[hF.l1];exact hlt
 have hki:(k:Int) < (v.t.rts.length:Int):=by omega
 have hki0:¬(k:Int) < 0:=by omega
 have hki2:¬(v.t.rts.length:Int)≤(k:Int):=by omega
 have hkiu:(k:Int) < (u.i.rts.length:Int):=by omega
 obtain ⟨W2,hW2⟩:∃ W,W=(w.alloc (.cells (z0t v) 33)).alloc (.cells (z1v u) 41):=⟨_,rfl⟩
 have hb2:Below w.heap.size w W2:=by rw[hW2];exact (bQ.alloc nL _).alloc (by simp) _
 have hx0:Blk W2 w.heap.size 33 (z0t v):=by rw[hW2];exact (Blk.new _ _ _ _ rfl).alloc _
 have hx1:Blk W2 (w.heap.size+1) 41 (z1v u):=by rw[hW2];exact Blk.new _ _ _ _ (by simp)
 have HFT:=hE (fits_any v u W2 (hr.now hb2) (hs.now hb2) hS.ok);rw[y06 hF] at HFT;have hn1:=hs.n1.1;have hm1:=hr.n1.1;unfold maxLen at hn1 hm1;have hsec:=hS _ (uE hlt);have hfit:=hF.st k hltu hlt;have hpos:=z3x hF.chk hlt;have hck:=hF.chk;have hre1:=z2u hlt;have hre2:=z5g hltu;go_enter Tryz.func29,Tryz.ntmps29
 go_wp2_with fail;rw[←hW2];clear hW2;refine HFT.out.mono ?_;rintro e w3 ⟨rfl,hq3⟩;have hb3:=z00 hb2 hb2.size hq3;have bxt:=hx0.now hq3;have bxi:=hx1.now hq3;clear hx0 hx1 hb2 HFT hq3;obtain ⟨bS,offS,hAS,lbS,hoS,z0,z1,z2⟩:=(hs.now hb3).r1.elX hltu;obtain ⟨b2,off2,rv,hA2,lb2,hre,hrv,q0,q1,q2,q3,q4,q5,q6,q7,q8,q9,q10,q11,q12,q13⟩:=(hr.now hb3).r1.elR hlt;have hmem:rv.r∈v.t.rts:=by rw[hre];exact uE hlt
 rw[←hre] at hsec hfit hpos hre1;rw[←hre2] at hfit z0 z1 z2;have hrel:=y2u hfit hpos;have HRS:Hid (z4s v.t rv.r (z1d u.i k)=z4s v.t (z0r v.t k) (z1d u.i k)):=hE (by rw[hre1]);clear hre hre1 hre2;generalize z1d u.i k=x at *;obtain ⟨pa,hpa⟩:∃ p,off2+k*14=p:=⟨_,rfl⟩
 rw[hpa] at q0 q1 q2 q3 q4 q5 q6 q7 q8 q9 q10 q11 q12 q13;obtain ⟨ps,hps⟩:∃ p,offS+k*3=p:=⟨_,rfl⟩
 rw[hps] at z0 z1 z2;have HC:=hE fun W' (h:Below w3.heap.size w3 W')=>z9v v rv x W' (hr.now (z00 hb3 hb3.size h)) (hrv.now h) hck hmem hsec hrel
 have lxt:=bxt.lt;have lxi:=bxi.lt;have lbS':bS < w3.heap.size:=lbS;have lb2':b2 < w3.heap.size:=lb2;(try unfold z0t at HC);rw[hA2] at HC;have HSS:Hid (∀ W,Below w3.heap.size w3 W→(fun w'=>w'.cell? ⟨w.heap.size,0,none⟩=some (.slice (some ⟨b2,off2,none⟩) v.t.rts.length v.c1)∧w'.cell? ⟨w.heap.size,1,none⟩=some (.slice v.A2 v.t.pts.length v.c2)∧w'.cell? ⟨w.heap.size,2,none⟩=some (.slice v.A3 v.t.homes.length v.c3)∧w'.cell? ⟨w.heap.size,3,none⟩=some (.int .i64 v.t.nsec)∧w'.cell? ⟨w.heap.size,4,none⟩=some (.int .i64 v.t.nsig)∧w'.cell? ⟨w.heap.size+1,0,none⟩=some (.slice (some ⟨bS,offS,none⟩) u.i.rts.length u.c1)∧w'.cell? ⟨b2,pa,none⟩=some (.string (bs rv.r.name))∧w'.cell? ⟨b2,pa+1,none⟩=some (.int .i64 rv.r.ent)∧w'.cell? ⟨b2,pa+2,none⟩=some (.int .i64 rv.r.ext)∧w'.cell? ⟨b2,pa+3,none⟩=some (.slice rv.A1 rv.r.path.length rv.c1)∧w'.cell? ⟨b2,pa+4,none⟩=some (.slice rv.A2 rv.r.pts.length rv.c2)∧w'.cell? ⟨b2,pa+5,none⟩=some (.slice rv.A3 rv.r.secs.length rv.c3)∧w'.cell? ⟨b2,pa+6,none⟩=some (.int .i64 rv.r.app)∧w'.cell? ⟨b2,pa+7,none⟩=some (.int .i64 rv.r.len)∧w'.cell? ⟨b2,pa+8,none⟩=some (.slice rv.A4 rv.r.over.length rv.c4)∧w'.cell? ⟨b2,pa+9,none⟩=some (.slice rv.A5 rv.r.opts.length rv.c5)∧w'.cell? ⟨b2,pa+10,none⟩=some (.slice rv.A6 rv.r.osecs.length rv.c6)∧w'.cell? ⟨b2,pa+11,none⟩=some (.slice rv.A7 rv.r.flk.length rv.c7)∧w'.cell? ⟨b2,pa+12,none⟩=some (.slice rv.A8 rv.r.grd.length rv.c8)∧w'.cell? ⟨b2,pa+13,none⟩=some (.slice rv.A9 rv.r.gap.length rv.c9)∧w'.cell? ⟨bS,ps,none⟩=some (.int .i64 x.st)∧w'.cell? ⟨bS,ps+1,none⟩=some (.int .i64 x.rel)∧w'.cell? ⟨bS,ps+2,none⟩=some (.int .i64 x.tim)∧Below w3.heap.size w3 w') W):=hE fun W h=>⟨(h.cell (p:=⟨w.heap.size,0,none⟩) lxt).trans ((bxt.cell 0).trans (by unfold z0t;rw[hA2];rfl)),(h.cell (p:=⟨w.heap.size,1,none⟩) lxt).trans (bxt.cell 1),(h.cell (p:=⟨w.heap.size,2,none⟩) lxt).trans (bxt.cell 2),(h.cell (p:=⟨w.heap.size,3,none⟩) lxt).trans (bxt.cell 3),(h.cell (p:=⟨w.heap.size,4,none⟩) lxt).trans (bxt.cell 4),(h.cell (p:=⟨w.heap.size+1,0,none⟩) lxi).trans ((bxi.cell 0).trans (by unfold z1v;rw[hAS];rfl)),(h.cell (p:=⟨b2,pa,none⟩) lb2').trans (q0),(h.cell (p:=⟨b2,pa+1,none⟩) lb2').trans (q1),(h.cell (p:=⟨b2,pa+2,none⟩) lb2').trans (q2),(h.cell (p:=⟨b2,pa+3,none⟩) lb2').trans (q3),(h.cell (p:=⟨b2,pa+4,none⟩) lb2').trans (q4),(h.cell (p:=⟨b2,pa+5,none⟩) lb2').trans (q5),(h.cell (p:=⟨b2,pa+6,none⟩) lb2').trans (q6),(h.cell (p:=⟨b2,pa+7,none⟩) lb2').trans (q7),(h.cell (p:=⟨b2,pa+8,none⟩) lb2').trans (q8),(h.cell (p:=⟨b2,pa+9,none⟩) lb2').trans (q9),(h.cell (p:=⟨b2,pa+10,none⟩) lb2').trans (q10),(h.cell (p:=⟨b2,pa+11,none⟩) lb2').trans (q11),(h.cell (p:=⟨b2,pa+12,none⟩) lb2').trans (q12),(h.cell (p:=⟨b2,pa+13,none⟩) lb2').trans (q13),(h.cell (p:=⟨bS,ps,none⟩) lbS').trans (z0),(h.cell (p:=⟨bS,ps+1,none⟩) lbS').trans (z1),(h.cell (p:=⟨bS,ps+2,none⟩) lbS').trans (z2),h⟩
 have X0:=(bxt.cell 0).trans (by unfold z0t;rw[hA2];rfl:_=some (Value.slice (some ⟨b2,off2,none⟩) v.t.rts.length v.c1));clear hA2 hAS q0 q1 q2 q3 q4 q5 q6 q7 q8 q9 q10 q11 q12 q13 z0 z1 z2 hoS hrv hmem hsec hfit hpos hrel hck bxt bxi;go_wp2_with fail
 refine rgS 13 HSS fun hHeld=>?_
 refine tkM 11 [0,1,2,3,4,5,6,7,8,9,10] ?_;refine rd1 11 rfl fun K hK=>?_
 go_simp;go_at_call 59
 refine (HC.out _ bQ.drew).mono ?_;rintro e w7 ⟨A7,c7,rfl,ho7,hq7⟩;have hq7':Below w3.heap.size w3 w7:=bQ.drew.trans hq7;go_wp2_with fail
 refine hK.out _ _ (HSS.out _ hq7') (fun hHeld=>?_);clear hK K;try simp only[Act.put,lsa,lsz,lss]
 refine tkM 1 [12] ?_;refine wdn ?_;have hb7:=z00 hb3 hb3.size hq7';have ho77:=ho7.lower hb3.size;clear HSS HC hq7 hq7' ho7 hHeld;go_wp2_with fail
 go_ret;exact z0x HRS.out rfl ho77 hb7
theorem x0e:(Tryz.prog.info? 4).map (fun i=>(i.zero,i.size,i.bytes))=some (some (.bool false),1,1):=by kernel_rfl
theorem x4c (N:Nat) (hN:N≤1000000) (W:World):(Instr.makeSlice 43 (.int .i64 (N:Int)) (.int .i64 (N:Int))).run Tryz.prog W=.ok (.slice (some ⟨W.heap.size,0,none⟩) N N) (W.alloc (.cells (List.replicate N (Value.bool false)).toArray 4)):=by
 obtain ⟨i0,hi,hz0,hz1,hz2⟩:=info_parts x0e;have h:=run_make (P:=Tryz.prog) W 43 4 i0 (.bool false) Tryz.underlying43 hi hz0 .i64 .i64 (N:Int) (N:Int) (by omega) (by omega) (by rw[hz2];omega) (by omega);rw[hz1,show ((N:Int)).toNat=N by omega,Nat.mul_one,y8z _ _ rfl] at h;exact h
theorem y7y {α:Type} {c:Cod α} {w:World} {S:Nat→Prop} {x:α} {ys:List Value} (h:c.rd w S ys x):∀ N,RdC c w S (List.replicate N ys).flatten (List.replicate N x)
 | 0=>rfl
 | N+1=>⟨ys,_,by rw[List.replicate_succ,List.flatten_cons],h,y7y h N⟩
theorem z9n {α:Type} {c:Cod α} (hc:Flat c) {W:World} {base N:Nat} {T:TypeId} {x:α} {ys:List Value} (h:∀ w S,c.rd w S ys x) (hb:base≤W.heap.size) (hN:N≤maxLen):z09 c (W.alloc (.cells (List.replicate N ys).flatten.toArray T)) base T (.slice (some ⟨W.heap.size,0,none⟩) N N) (List.replicate N x) 0:=by
 have hl:(List.replicate N ys).flatten.length=N*c.size:=by
  have:=(y7y (h W (fun _=>True)) N).len
  rwa [List.length_replicate] at this
 exact ⟨(List.replicate N ys).flatten,⟨by rw[List.length_replicate];exact hl,Or.inr ⟨W.heap.size,N,_,by rw[List.length_replicate],hb,heap_alloc_new _ _,by rw[List.length_replicate];exact nL,hN,by simpa using hl,by rw[List.length_replicate,←hl,List.take_length]⟩⟩,y7y (h _ _) N,nZ⟩
theorem y7z {α:Type} (v:α) (N:Nat):(List.replicate N [v]).flatten=List.replicate N v:=by
 induction N with
 | zero=>rfl
 | succ N ih=>rw[List.replicate_succ,List.flatten_cons,ih];rfl
theorem y48 {α:Type} {c:Cod α} (hc:Flat c) (h1:c.size=1) {w:World} {base g cap k:Nat} {e:TypeId} {l:List α} {u:Value} {y:α} (h:z09 c w base e (.slice (some ⟨g,0,none⟩) l.length cap) l 0) (hk:k < l.length) (hy:∀ w S,c.rd w S [u] y) :
  z09 c (w.setCell ⟨g,k,none⟩ u) base e (.slice (some ⟨g,0,none⟩) l.length cap) (l.set k y) 0∧Frm base e w (w.setCell ⟨g,k,none⟩ u):=by
 have:=x4w hc h hk hy;rw[h1,Nat.mul_one] at this;exact this
theorem z9m {α:Type} {c:Cod α} {w:World} {base g n cap B:Nat} {e:TypeId} {l:List α} (h:z09 c w base e (.slice (some ⟨g,0,none⟩) n cap) l B) (j:Nat):w.frozen? ⟨g,j,none⟩=false:=by
 obtain ⟨xs,h1,_⟩:=h;rcases h1.2 with ⟨hv,_⟩ | ⟨g',cap',cur,hv,hb,hg,_⟩
 ·cases hv
 ·simp only[Value.slice.injEq,qE,Addr.mk.injEq,and_true] at hv;rw[hv.1];exact Lib.frozen_of_heap hg j
def onK (t:Tab) (s:Itr) (k:Nat):List Bool:=(List.range t.nsig.toNat).map fun (j:Nat)=>((t.rts.zip s.rts).take k).any fun p=>decide (p.2.st=2) && decide (p.1.ent=(j:Int))
theorem j2s (t:Tab) (s:Itr) (k:Nat):(onK t s k).length=t.nsig.toNat:=by simp[onK]
theorem x8w (t:Tab) (s:Itr):onK t s 0=List.replicate t.nsig.toNat false:=by
 apply List.ext_getElem <;> simp[onK]
theorem j2r {t:Tab} {s:Itr} {k:Nat} (hl:s.rts.length=t.rts.length) (h:¬k < t.rts.length):onK t s k=z2d t s:=by
 unfold onK z2d;rw[tlL (by rw[List.length_zip];omega)]
theorem j6p {t:Tab} {s:Itr} {k:Nat} (h1:k < t.rts.length) (h2:k < s.rts.length) (h:¬s.rts[k].st=2):onK t s (k+1)=onK t s k:=by
 unfold onK;congr 1;funext j;rw[tqS (by rw[List.length_zip];omega),List.any_append];simp[h]
theorem j2t {t:Tab} {s:Itr} {k e:Nat} (h1:k < t.rts.length) (h2:k < s.rts.length) (h:s.rts[k].st=2) (he:t.rts[k].ent=(e:Int)):onK t s (k+1)=(onK t s k).set e true:=by
 apply List.ext_getElem?;intro j;rw[List.getElem?_set];unfold onK;rw[List.length_map,List.length_range];by_cases hj:j < t.nsig.toNat
 ·rw[List.getElem?_map,List.getElem?_range hj,List.getElem?_map,List.getElem?_range hj];simp only[Option.map_some];rw[tqS (by rw[List.length_zip];omega),List.any_append];by_cases hje:e=j
  ·subst hje;rw[if_pos rfl,if_pos hj];simp[h,he]
  ·rw[if_neg hje];have:¬((e:Int)=(j:Int)):=by omega
   simp[h,he,this]
 ·rw[List.getElem?_eq_none (by simp;omega)];by_cases hje:e=j
  ·rw[if_pos hje,if_neg (by omega)]
  ·rw[if_neg hje,List.getElem?_eq_none (by simp;omega)]
theorem z9w:Flat cB:=fun _ _ _ _ _ _ h=>h
theorem y83 (v:z1w) (u:z1r) (w:World) (hr:TvR w v) (hs:y1j w u) (hck:z4y v.t=0) (hl:u.i.rts.length=v.t.rts.length):Calls Tryz.prog 28 #[.agg #[.slice v.A1 v.t.rts.length v.c1,.slice v.A2 v.t.pts.length v.c2,.slice v.A3 v.t.homes.length v.c3,.int .i64 v.t.nsec,.int .i64 v.t.nsig],.agg #[.slice u.A1 u.i.rts.length u.c1,.slice u.A2 u.i.lies.length u.c2]] w (y35 cB 4 w (z2d v.t u.i)):=by
 obtain ⟨m,hm⟩:∃ m:Nat,v.t.nsig=m:=⟨v.t.nsig.toNat,by have:=(z8l hck).ng;omega⟩
 have hm20:m≤20:=by have:=(z8l hck).ng;omega
 have hm1:=hr.n1.1;unfold maxLen at hm1;have hmt:v.t.nsig.toNat=m:=by rw[hm];rfl
 have HL:=hE hl;obtain ⟨W2,hW2⟩:∃ W,W=(w.alloc (.cells #[.slice v.A1 v.t.rts.length v.c1,.slice v.A2 v.t.pts.length v.c2,.slice v.A3 v.t.homes.length v.c3,.int .i64 v.t.nsec,.int .i64 v.t.nsig] 33)).alloc (.cells #[.slice u.A1 u.i.rts.length u.c1,.slice u.A2 u.i.lies.length u.c2] 41):=⟨_,rfl⟩
 have hb2:Below w.heap.size w W2:=by rw[hW2];exact (bQ.alloc nL _).alloc (by simp) _
 have hx0:Blk W2 w.heap.size 33 #[.slice v.A1 v.t.rts.length v.c1,.slice v.A2 v.t.pts.length v.c2,.slice v.A3 v.t.homes.length v.c3,.int .i64 v.t.nsec,.int .i64 v.t.nsig]:=by rw[hW2];exact (Blk.new _ _ _ _ rfl).alloc _
 have hx1:Blk W2 (w.heap.size+1) 41 #[.slice u.A1 u.i.rts.length u.c1,.slice u.A2 u.i.lies.length u.c2]:=by rw[hW2];exact Blk.new _ _ _ _ (by simp)
 have hg2:W2.heap.size=w.heap.size+1+1:=by rw[hW2];simp
 obtain ⟨W3,hW3⟩:∃ W,W=((w.alloc (.cells #[.slice v.A1 v.t.rts.length v.c1,.slice v.A2 v.t.pts.length v.c2,.slice v.A3 v.t.homes.length v.c3,.int .i64 v.t.nsec,.int .i64 v.t.nsig] 33)).alloc (.cells #[.slice u.A1 u.i.rts.length u.c1,.slice u.A2 u.i.lies.length u.c2] 41)).alloc (.cells (Array.replicate m (Value.bool false)) 4):=⟨_,rfl⟩
 have hW3':W3=W2.alloc (.cells (List.replicate m (Value.bool false)).toArray 4):=by rw[hW3,hW2,List.toArray_replicate]
 have hbe3:Below W2.heap.size W2 W3:=by rw[hW3'];exact bQ.alloc nL _
 have hb3:=z00 hb2 hb2.size hbe3;have hx03:=hx0.now hbe3;have hx13:=hx1.now hbe3;have hown3:z09 cB W3 w.heap.size 4 (.slice (some ⟨w.heap.size+1+1,0,none⟩) m m) (onK v.t u.i 0) 0:=by
  rw[hW3',x8w,hmt,←y7z,←hg2];exact z9n z9w (x:=false) (ys:=[.bool false]) (fun _ _=>rfl) hb2.size (by unfold maxLen;omega)
 have mk:=x4c m (by omega);rw[←hm] at mk;have HM:=hE hm;have HMT:=hE hmt;have HCK:=hE hck;clear hx0 hx1 hmt hck hl hW2 hW3' hbe3 hg2 hb2 hm;go_enter Tryz.func28,Tryz.ntmps28
 go_wp2_with fail;rw[←hW3];clear hW3 mk;go_loopw [14] (fun i wr=>∃ k:Nat,k≤v.t.rts.length∧i=.int .i64 k∧z09 cB wr w.heap.size 4 (.slice (some ⟨w.heap.size+1+1,0,none⟩) m m) (onK v.t u.i k) 0∧Below w.heap.size w wr∧Blk wr w.heap.size 33 #[.slice v.A1 v.t.rts.length v.c1,.slice v.A2 v.t.pts.length v.c2,.slice v.A3 v.t.homes.length v.c3,.int .i64 v.t.nsec,.int .i64 v.t.nsig]∧Blk wr (w.heap.size+1) 41 #[.slice u.A1 u.i.rts.length u.c1,.slice u.A2 u.i.lies.length u.c2]) (fun i _=>v.t.rts.length - (intOf i).toNat)
 case atStart=>exact ⟨0,nZ,rfl,hown3,hb3,hx03,hx13⟩
 case round=>
  obtain ⟨k,hkl,rfl,hon,hb,hxt,hxi⟩:=hrel;clear hown3 hb3 hx03 hx13;by_cases hlt:k < v.t.rts.length
  ·have hki:(k:Int) < (v.t.rts.length:Int):=by omega
   have hltu:k < u.i.rts.length:=by rw[HL.out];exact hlt
   have hkiu:(k:Int) < (u.i.rts.length:Int):=by omega
   obtain ⟨bS,offS,hAS,lbS,hoS,z0,z1,z2⟩:=(hs.now hb).r1.elX hltu;obtain ⟨b2,off2,rv,hA2,lb2,hre,hrv,q0,q1,q2,q3,q4,q5,q6,q7,q8,q9,q10,q11,q12,q13⟩:=(hr.now hb).r1.elR hlt;have hent:=(z8l HCK.out).ent _ (uE hlt);have HNO:=hE (j6p (t:=v.t) (s:=u.i) hlt hltu);have HYE:=hE fun e=>j2t (t:=v.t) (s:=u.i) (e:=e) hlt hltu
   rw[←hre] at hent;rw[←hre] at HYE;obtain ⟨en,hen⟩:∃ e:Nat,rv.r.ent=e:=⟨rv.r.ent.toNat,by omega⟩
   have henm:en < m:=by have:=HM.out;omega
   have heni:(en:Int) < (m:Int):=by omega
   have HYE2:=hE fun h=>HYE.out en h hen
   generalize u.i.rts[k]=x at *;have HA2:=hE hA2;have hxiX:wr.cell? ⟨w.heap.size+1,0,none⟩=some (.slice (some ⟨bS,offS,none⟩) u.i.rts.length u.c1):=(hxi.cell 0).trans (by rw[hAS];rfl);have lxi:=hxi.lt;have lbS':bS < wr.heap.size:=lbS;have lb2':b2 < wr.heap.size:=lb2;have hall:Below wr.heap.size wr (wr.alloc (.cells #[.string (bs rv.r.name),.int .i64 rv.r.ent,.int .i64 rv.r.ext,.slice rv.A1 rv.r.path.length rv.c1,.slice rv.A2 rv.r.pts.length rv.c2,.slice rv.A3 rv.r.secs.length rv.c3,.int .i64 rv.r.app,.int .i64 rv.r.len,.slice rv.A4 rv.r.over.length rv.c4,.slice rv.A5 rv.r.opts.length rv.c5,.slice rv.A6 rv.r.osecs.length rv.c6,.slice rv.A7 rv.r.flk.length rv.c7,.slice rv.A8 rv.r.grd.length rv.c8,.slice rv.A9 rv.r.gap.length rv.c9] 56)):=bQ.alloc nL _;have HH:=hE (aIq (hon.now hall) (aIq (z00 hb hb.size hall) (aIq (hxt.now hall) (hxi.now hall))));rw[hA2];rw[hen] at q1 hall HH;have HEN:=hE hen;clear hA2 hAS hre hent HYE hen;by_cases hst:x.st=2
   ·have t1:(x.st==2)=true:=by rw[hst];rfl
    have HS:=hE (HYE2.out hst);have hol:(onK v.t u.i k).length=m:=by rw[j2s];exact HMT.out
    have hon2:z09 cB wr w.heap.size 4 (.slice (some ⟨w.heap.size+1+1,0,none⟩) (onK v.t u.i k).length m) (onK v.t u.i k) 0:=by rw[hol];exact hon
    obtain ⟨bo,offo,hAo,lbo,c0⟩:=hon2.rdn.2.x79 (i:=en) (by omega);simp only[qE,Addr.mk.injEq,and_true] at hAo;obtain ⟨rfl,rfl⟩:=hAo;rw[Nat.zero_add] at c0;have c1:=z9m hon2 en;have lbo2:w.heap.size+1+1 < wr.heap.size:=lbo.2;obtain ⟨ho6,hf6⟩:=y48 z9w rfl (u:=.bool true) (y:=true) hon2 (show en < _ by omega) (fun _ _=>rfl);rw[hol] at ho6;have hb6:=hf6.keeps nL hb.size hb;have hal6:Below (wr.setCell ⟨w.heap.size+1+1,en,none⟩ (.bool true)).heap.size (wr.setCell ⟨w.heap.size+1+1,en,none⟩ (.bool true)) ((wr.setCell ⟨w.heap.size+1+1,en,none⟩ (.bool true)).alloc (.cells #[.string (bs rv.r.name),.int .i64 rv.r.ent,.int .i64 rv.r.ext,.slice rv.A1 rv.r.path.length rv.c1,.slice rv.A2 rv.r.pts.length rv.c2,.slice rv.A3 rv.r.secs.length rv.c3,.int .i64 rv.r.app,.int .i64 rv.r.len,.slice rv.A4 rv.r.over.length rv.c4,.slice rv.A5 rv.r.opts.length rv.c5,.slice rv.A6 rv.r.osecs.length rv.c6,.slice rv.A7 rv.r.flk.length rv.c7,.slice rv.A8 rv.r.grd.length rv.c8,.slice rv.A9 rv.r.gap.length rv.c9] 56)):=bQ.alloc nL _;have HH2:=hE (aIq (ho6.now hal6) (aIq (z00 hb6 hb6.size hal6) (aIq ((hf6.blk hxt (by decide)).now hal6) ((hf6.blk hxi (by decide)).now hal6))));rw[HEN.out] at HH2;generalize (onK v.t u.i k)[en]'(by omega)=c0v at *;clear hst hon hon2 hb hxt hxi ho6 hf6 hb6 hal6 lbo;go_wp2_with fail
    go_roundw
    case rel=>
     have hk1:k+1≤v.t.rts.length:=hlt;obtain ⟨h1,h2,h3,h4⟩:=HH2.out;rw[HA2.out] at h3;refine ⟨k+1,hk1,by go_num,?_,h2,h3,h4⟩;rw[HS.out];exact h1
    case measure=>simp[intOf];omega
   ·have t1:(x.st==2)=false:=by simpa using hst
    have HS:=hE (HNO.out hst);clear hst hon hb hxt hxi;go_wp2_with fail
    go_roundw
    case rel=>
     have hk1:k+1≤v.t.rts.length:=hlt;obtain ⟨h1,h2,h3,h4⟩:=HH.out;rw[HA2.out] at h3;refine ⟨k+1,hk1,by go_num,?_,h2,h3,h4⟩;rw[HS.out];exact h1
    case measure=>simp[intOf];omega
  ·have hki:¬(k:Int) < (v.t.rts.length:Int):=by omega
   have HS:=hE (j2r HL.out hlt);rw[HS.out] at hon;have hsl:(z2d v.t u.i).length=m:=by have:=HMT.out;simp[z2d];omega
   have HO:Hid (z09 cB wr w.heap.size 4 (.slice (some ⟨w.heap.size+1+1,0,none⟩) (z2d v.t u.i).length m) (z2d v.t u.i) 0):=hE (by rw[hsl];exact hon);have HSL:=hE hsl;clear hon hsl hxt hxi;go_wp2_with fail
   go_ret;exact ⟨some ⟨w.heap.size+1+1,0,none⟩,m,(by rw[HSL.out];rfl),HO.out,hb⟩
end Go.Proofs.YtpenlfedkacglaaGreatDoor
