import Derived.Test.YtpenlfedkacglaaGreatDoorL21
import Derived.Lay
import Derived.Lib.LaidU8
import Derived.Stop.Joined
import Derived.Stop.LaidErr
import Derived.Test.YtpenlfedkacglaaGreatDoorCards
import Derived.Test.YtpenlfedkacglaaGreatDoorTie
set_option maxRecDepth 100000
set_option maxHeartbeats 40000000
set_option linter.all false
namespace Go.Proofs.YtpenlfedkacglaaGreatDoor
open Go.RowKit
attribute [local go_sem] z05 z07 z01 z02
attribute [-go_sem] run_equalIn_agg
theorem x5z (v:z1w) (i:z3n) (rv:z2v) (o:RSt) (cla pas can emp:Bool) (w:World) (hr:TvR w v) (hi:y1d w i) (hrv:RvR w (Lt w) rv) (hrel:∃ k:Nat,o.rel=k∧k < rv.r.secs.length) (htim:0≤o.tim∧o.tim < 4) (h3:rv.r.secs.length≤30000):Calls Tryz.prog 67 #[.agg #[.slice v.A1 v.t.rts.length v.c1,.slice v.A2 v.t.pts.length v.c2,.slice v.A3 v.t.homes.length v.c3,.int .i64 v.t.nsec,.int .i64 v.t.nsig,.slice i.A1 i.i.occ.length i.c1,.slice i.A2 i.i.det.length i.c2,.slice i.A3 i.i.clo.length i.c3,.slice i.A4 i.i.cla.length i.c4,.slice i.A5 i.i.pas.length i.c5,.slice i.A6 i.i.calls.length i.c6,.slice i.A7 i.i.cans.length i.c7,.string (bs rv.r.name),.int .i64 rv.r.ent,.int .i64 rv.r.ext,.slice rv.A1 rv.r.path.length rv.c1,.slice rv.A2 rv.r.pts.length rv.c2,.slice rv.A3 rv.r.secs.length rv.c3,.int .i64 rv.r.app,.int .i64 rv.r.len,.slice rv.A4 rv.r.over.length rv.c4,.slice rv.A5 rv.r.opts.length rv.c5,.slice rv.A6 rv.r.osecs.length rv.c6,.slice rv.A7 rv.r.flk.length rv.c7,.slice rv.A8 rv.r.grd.length rv.c8,.slice rv.A9 rv.r.gap.length rv.c9,.int .i64 o.st,.int .i64 o.rel,.int .i64 o.tim,.bool cla,.bool pas,.bool can,.bool emp]] w fun e w'=>e=.returned (rsV (z9t i.i rv.r o cla pas can emp))∧Below w.heap.size w w':=by
 obtain ⟨W2,hW2⟩:∃ W,W=(w.alloc (.cells #[.slice v.A1 v.t.rts.length v.c1,.slice v.A2 v.t.pts.length v.c2,.slice v.A3 v.t.homes.length v.c3,.int .i64 v.t.nsec,.int .i64 v.t.nsig,.slice i.A1 i.i.occ.length i.c1,.slice i.A2 i.i.det.length i.c2,.slice i.A3 i.i.clo.length i.c3,.slice i.A4 i.i.cla.length i.c4,.slice i.A5 i.i.pas.length i.c5,.slice i.A6 i.i.calls.length i.c6,.slice i.A7 i.i.cans.length i.c7,.string (bs rv.r.name),.int .i64 rv.r.ent,.int .i64 rv.r.ext,.slice rv.A1 rv.r.path.length rv.c1,.slice rv.A2 rv.r.pts.length rv.c2,.slice rv.A3 rv.r.secs.length rv.c3,.int .i64 rv.r.app,.int .i64 rv.r.len,.slice rv.A4 rv.r.over.length rv.c4,.slice rv.A5 rv.r.opts.length rv.c5,.slice rv.A6 rv.r.osecs.length rv.c6,.slice rv.A7 rv.r.flk.length rv.c7,.slice rv.A8 rv.r.grd.length rv.c8,.slice rv.A9 rv.r.gap.length rv.c9,.int .i64 o.st,.int .i64 o.rel,.int .i64 o.tim,.bool cla,.bool pas,.bool can,.bool emp] 125)).alloc (.cells #[.int .i64 0,.int .i64 0,.int .i64 0] 58):=⟨_,rfl⟩
 have hb2:Below w.heap.size w W2:=by rw[hW2];exact (bQ.alloc nL _).alloc (by simp) _
 have hv:Blk W2 w.heap.size 125 #[.slice v.A1 v.t.rts.length v.c1,.slice v.A2 v.t.pts.length v.c2,.slice v.A3 v.t.homes.length v.c3,.int .i64 v.t.nsec,.int .i64 v.t.nsig,.slice i.A1 i.i.occ.length i.c1,.slice i.A2 i.i.det.length i.c2,.slice i.A3 i.i.clo.length i.c3,.slice i.A4 i.i.cla.length i.c4,.slice i.A5 i.i.pas.length i.c5,.slice i.A6 i.i.calls.length i.c6,.slice i.A7 i.i.cans.length i.c7,.string (bs rv.r.name),.int .i64 rv.r.ent,.int .i64 rv.r.ext,.slice rv.A1 rv.r.path.length rv.c1,.slice rv.A2 rv.r.pts.length rv.c2,.slice rv.A3 rv.r.secs.length rv.c3,.int .i64 rv.r.app,.int .i64 rv.r.len,.slice rv.A4 rv.r.over.length rv.c4,.slice rv.A5 rv.r.opts.length rv.c5,.slice rv.A6 rv.r.osecs.length rv.c6,.slice rv.A7 rv.r.flk.length rv.c7,.slice rv.A8 rv.r.grd.length rv.c8,.slice rv.A9 rv.r.gap.length rv.c9,.int .i64 o.st,.int .i64 o.rel,.int .i64 o.tim,.bool cla,.bool pas,.bool can,.bool emp]:=by rw[hW2];exact (Blk.new _ _ _ _ rfl).alloc _
 have hz:Blk W2 (w.heap.size+1) 58 #[.int .i64 0,.int .i64 0,.int .i64 0]:=by rw[hW2];exact Blk.new _ _ _ _ (by simp)
 have hn3:=hrv.o.n3;have hc3:=hn3.2;have hm3:=hn3.1;unfold maxLen at hm3;clear hn3;obtain ⟨k,hk,hlt⟩:=hrel;obtain ⟨b3,off3,hA3,lb3,ho3,q0⟩:=(hrv.now hb2).r3.elI hlt;have HRD:=hE (hrv.now hb2).r3;have HA3:=hE hA3;have hki:(k:Int) < (rv.r.secs.length:Int):=by omega
 obtain ⟨st,rel,tim⟩:=o;dsimp only at hk htim hv hW2 ⊢;subst hk;have hwt:IntKind.i64.wrap (tim+1)=tim+1:=IntWalk.i64_in _ (by omega);have hwk:IntKind.i64.wrap ((k:Int)+1)=(k:Int)+1:=IntWalk.i64_in _ (by omega);have hwl:IntKind.i64.wrap ((rv.r.secs.length:Int) - 1)=(rv.r.secs.length:Int) - 1:=IntWalk.i64_in _ (by omega);have HX0:Hid (∀ a b c d,z9t i.i rv.r ⟨st,(k:Int),tim⟩ a b c d=if a=true then ⟨3,k,0⟩ else if (c && d)=true then ⟨4,k,0⟩ else if z2t i.i.occ rv.r.secs[k]=false then (if (k:Int)=(rv.r.secs.length:Int) - 1 then zS else if (b || z2t i.i.occ (rv.r.secs.getD (k+1) 0))=true then ⟨3,(k:Int)+1,0⟩ else ⟨3,k,0⟩) else if (k:Int) < (rv.r.secs.length:Int) - 1 then ⟨3,k,0⟩ else if tim+1=4 then zS else ⟨3,k,tim+1⟩):=hE fun a b c d=>by unfold z9t;simp[List.getD,hlt]
 have HO1:=hE fun W' (h:Below W2.heap.size W2 W')=>z1q i rv.r.secs[k] W' (hi.now (z00 hb2 hb2.size h))
 generalize rv.r.secs[k]=s0 at *;obtain ⟨d0,hd0⟩:∃ c,z2t i.i.occ s0=c:=⟨_,rfl⟩
 rw[hd0] at HX0 HO1;have lb3':b3 < W2.heap.size:=lb3;have hvl:=hv.lt;have HSS:Hid (∀ W,Below W2.heap.size W2 W→(fun w'=>w'.cell? ⟨w.heap.size,17,none⟩=some (.slice (some ⟨b3,off3,none⟩) rv.r.secs.length rv.c3)∧w'.cell? ⟨w.heap.size,27,none⟩=some (.int .i64 (k:Int))∧Below W2.heap.size W2 w') W):=hE fun W h=>⟨(h.cell (p:=⟨w.heap.size,17,none⟩) hvl).trans ((hv.cell 17).trans (by rw[HA3.out];rfl)),(h.cell (p:=⟨w.heap.size,27,none⟩) hvl).trans (hv.cell 27),h⟩
 clear hA3 hd0 lb3 ho3;go_enter Tryz.func67,Tryz.ntmps67
 go_wp2_with fail;rw[←hW2];clear hW2;refine rgS 10 HSS fun hHeld=>?_
 refine tkM 10 [0,1,2,3,4,5,6,7,8,9] ?_;refine wdn ?_;obtain ⟨Wd,hWd⟩:∃ W,W=W2.drew:=⟨_,rfl⟩
 have hbd:Below W2.heap.size W2 Wd:=by rw[hWd];exact bQ.drew
 rw[←hWd];clear hWd;have hb2d:=z00 hb2 hb2.size hbd;have hv2:=hv.now hbd;have hz2:=hz.now hbd;have lbd:b3 < Wd.heap.size:=nT lb3' hbd.size;have qd:=(hbd.cell (p:=⟨b3,off3+k,none⟩) lb3').trans q0;clear HSS hHeld;have x29:=hv2.cell 29;have x31:=hv2.cell 31;have x32:=hv2.cell 32;have xl:=hv2.lt;simp only[gqA,gqZ,gqS] at x29 x31 x32
 cases cla with
 | true=>
  have HX:Hid (⟨3,(k:Int),0⟩=z9t i.i rv.r ⟨st,(k:Int),tim⟩ true pas can emp):=hE (by rw[HX0.out];simp);have r0:=hz2.cell 0;have r1:=hz2.cell 1;have r2:=hz2.cell 2;have rf:=hz2.free;have rl:=hz2.lt;simp only[gqA,gqZ,gqS] at r0 r1 r2;have HF:=hE (aIq ((((hz2.set 0 (.int .i64 (3))).set 1 (.int .i64 ((k:Int)))).set 2 (.int .i64 (0))).alloc (.cells #[.int .i64 3,.int .i64 (k:Int),.int .i64 0] 58)) ((((hb2d.setCell (p:=⟨w.heap.size+1,0,none⟩) (by simp) (.int .i64 (3))).setCell (p:=⟨w.heap.size+1,1,none⟩) (by simp) (.int .i64 ((k:Int)))).setCell (p:=⟨w.heap.size+1,2,none⟩) (by simp) (.int .i64 (0))).alloc (by simp;omega) (.cells #[.int .i64 3,.int .i64 (k:Int),.int .i64 0] 58)));go_wp2_with fail
  obtain ⟨p,hbf⟩:=HF.out;have p0:=p.cell 0;have p1:=p.cell 1;have p2:=p.cell 2;have pl:=p.lt;simp only[gqA,gqZ,gqS,lsz,lss,lsa] at p0 p1 p2
  exact bodyPost_ret (v:=.agg #[.int .i64 (3),.int .i64 ((k:Int)),.int .i64 (0)]) (by simp[results,Tryz.results67,go_sem,p0,p1,p2,pl,r0,r1,r2,rl]) rfl ⟨by rw[←HX.out];rfl,hbf⟩
 | false=>
  cases can with
  | false=>
   obtain ⟨W3,hW3⟩:∃ W,W=Wd.alloc (.cells #[.int .i64 3,.int .i64 (k:Int),.int .i64 0] 58):=⟨_,rfl⟩
   have hbe3:Below Wd.heap.size Wd W3:=by rw[hW3];exact bQ.alloc nL _
   have hst:Blk W3 Wd.heap.size 58 #[.int .i64 3,.int .i64 (k:Int),.int .i64 0]:=by rw[hW3];exact Blk.new _ _ _ _ rfl
   have hv3:=hv2.now hbe3;have hz3:=hz2.now hbe3;have hb3:=z00 hb2d hb2d.size hbe3;have hvl3:=hv3.lt;have lb33:b3 < W3.heap.size:=nT lbd hbe3.size;have q3:=(hbe3.cell (p:=⟨b3,off3+k,none⟩) lbd).trans qd;have hbw3:=z00 hbd hbd.size hbe3;have HS3:Hid (∀ W,Below W3.heap.size W3 W→(fun w'=>w'.cell? ⟨w.heap.size,5,none⟩=some (.slice i.A1 i.i.occ.length i.c1)∧w'.cell? ⟨w.heap.size,6,none⟩=some (.slice i.A2 i.i.det.length i.c2)∧w'.cell? ⟨w.heap.size,7,none⟩=some (.slice i.A3 i.i.clo.length i.c3)∧w'.cell? ⟨w.heap.size,8,none⟩=some (.slice i.A4 i.i.cla.length i.c4)∧w'.cell? ⟨w.heap.size,9,none⟩=some (.slice i.A5 i.i.pas.length i.c5)∧w'.cell? ⟨w.heap.size,10,none⟩=some (.slice i.A6 i.i.calls.length i.c6)∧w'.cell? ⟨w.heap.size,11,none⟩=some (.slice i.A7 i.i.cans.length i.c7)∧w'.cell? ⟨w.heap.size,17,none⟩=some (.slice (some ⟨b3,off3,none⟩) rv.r.secs.length rv.c3)∧w'.cell? ⟨b3,off3+k,none⟩=some (.int .i64 s0)∧Below W3.heap.size W3 w') W):=hE fun W h=>⟨(h.cell (p:=⟨w.heap.size,5,none⟩) hvl3).trans (hv3.cell 5),(h.cell (p:=⟨w.heap.size,6,none⟩) hvl3).trans (hv3.cell 6),(h.cell (p:=⟨w.heap.size,7,none⟩) hvl3).trans (hv3.cell 7),(h.cell (p:=⟨w.heap.size,8,none⟩) hvl3).trans (hv3.cell 8),(h.cell (p:=⟨w.heap.size,9,none⟩) hvl3).trans (hv3.cell 9),(h.cell (p:=⟨w.heap.size,10,none⟩) hvl3).trans (hv3.cell 10),(h.cell (p:=⟨w.heap.size,11,none⟩) hvl3).trans (hv3.cell 11),(h.cell (p:=⟨w.heap.size,17,none⟩) hvl3).trans ((hv3.cell 17).trans (by rw[HA3.out];rfl)),(h.cell (p:=⟨b3,off3+k,none⟩) lb33).trans q3,h⟩
   go_wp2_with fail;rw[←hW3];clear hW3 x29 x31 x32 xl q3 lb33 hvl3;refine rgS 10 HS3 fun hHeld=>?_
   refine tkM 8 [0,1,2,3,4,5,6,7] ?_;refine rd1 8 rfl fun K hK=>?_
   go_simp;go_at_call 110
   refine (HO1.out _ (z00 hbw3 hbw3.size bQ.drew)).mono ?_;rintro e w4 ⟨rfl,hq4⟩;have hq4':Below W3.heap.size W3 w4:=bQ.drew.trans hq4;go_wp2_with fail
   refine hK.out _ _ (HS3.out _ hq4') (fun hHeld=>?_);clear hK K;try simp only[Act.put,lsa,lsz,lss]
   refine tkM 1 [9] ?_;refine wdn ?_;have hb4:=z00 hb3 hb3.size hq4';have hv4:=hv3.now hq4';have hz4:=hz3.now hq4';have hst4:=hst.now hq4';have hsz24:w.heap.size≤W2.heap.size:=hb2.size;clear HS3 hq4 hHeld hv3 hz3 hst hb3;have t0:=hst4.cell 0;have t1:=hst4.cell 1;have t2:=hst4.cell 2;have tl:=hst4.lt;have tf:=hst4.free;simp only[gqA,gqZ,gqS] at t0 t1 t2
   cases d0 with
   | true=>
    by_cases hkl:(k:Int) < (rv.r.secs.length:Int) - 1
    ·have HX:Hid (⟨3,(k:Int),0⟩=z9t i.i rv.r ⟨st,(k:Int),tim⟩ false pas false emp):=hE (by rw[HX0.out];simp[hkl]);have r0:=hz4.cell 0;have r1:=hz4.cell 1;have r2:=hz4.cell 2;have rf:=hz4.free;have rl:=hz4.lt;simp only[gqA,gqZ,gqS] at r0 r1 r2;have HF:=hE (aIq ((((hz4.set 0 (.int .i64 (3))).set 1 (.int .i64 ((k:Int)))).set 2 (.int .i64 (0)))) ((((hb4.setCell (p:=⟨w.heap.size+1,0,none⟩) (by simp) (.int .i64 (3))).setCell (p:=⟨w.heap.size+1,1,none⟩) (by simp) (.int .i64 ((k:Int)))).setCell (p:=⟨w.heap.size+1,2,none⟩) (by simp) (.int .i64 (0)))));go_wp2_with fail
     obtain ⟨p,hbf⟩:=HF.out;have p0:=p.cell 0;have p1:=p.cell 1;have p2:=p.cell 2;have pl:=p.lt;simp only[gqA,gqZ,gqS,lsz,lss,lsa] at p0 p1 p2;exact bodyPost_ret (v:=.agg #[.int .i64 (3),.int .i64 ((k:Int)),.int .i64 (0)]) (by simp[results,Tryz.results67,go_sem,p0,p1,p2,pl,r0,r1,r2,rl]) rfl ⟨by rw[←HX.out];rfl,hbf⟩
    ·by_cases ht:tim+1=4
     ·have te:(tim+1==4)=true:=by rw[ht];rfl
      have HX:Hid (zS=z9t i.i rv.r ⟨st,(k:Int),tim⟩ false pas false emp):=hE (by rw[HX0.out];simp[hkl,ht]);have hkn:¬(k:Int) < (rv.r.secs.length:Int) - 1:=hkl;have hne:w.heap.size+1≠Wd.heap.size:=by have:=hz2.lt;omega
      have hz5:=hz4.far (p:=⟨Wd.heap.size,2,none⟩) hne (.int .i64 (tim+1));have hb5:=hb4.setCell (p:=⟨Wd.heap.size,2,none⟩) hb2d.size (.int .i64 (tim+1));clear ht hkl;have y28:=hv4.cell 28;have yl:=hv4.lt;simp only[gqA,gqZ,gqS] at y28;have r0:=hz4.cell 0;have r1:=hz4.cell 1;have r2:=hz4.cell 2;have rf:=hz4.free;have rl:=hz4.lt;simp only[gqA,gqZ,gqS] at r0 r1 r2;have HF:=hE (aIq (((hz5.set 0 (.int .i64 0)).set 1 (.int .i64 0)).set 2 (.int .i64 0)) (((hb5.setCell (p:=⟨w.heap.size+1,0,none⟩) (by simp) (.int .i64 0)).setCell (p:=⟨w.heap.size+1,1,none⟩) (by simp) (.int .i64 0)).setCell (p:=⟨w.heap.size+1,2,none⟩) (by simp) (.int .i64 0)));go_wp2_with fail
      obtain ⟨p,hbf⟩:=HF.out;have p0:=p.cell 0;have p1:=p.cell 1;have p2:=p.cell 2;have pl:=p.lt;simp only[gqA,gqZ,gqS,lsz,lss,lsa] at p0 p1 p2;exact bodyPost_ret (v:=.agg #[.int .i64 0,.int .i64 0,.int .i64 0]) (by simp[results,Tryz.results67,go_sem,p0,p1,p2,pl,r0,r1,r2,rl]) rfl ⟨by rw[←HX.out];rfl,hbf⟩
     ·have te:(tim+1==4)=false:=by simpa using ht
      have HX:Hid (⟨3,k,tim+1⟩=z9t i.i rv.r ⟨st,(k:Int),tim⟩ false pas false emp):=hE (by rw[HX0.out];simp[hkl,ht]);have hkn:¬(k:Int) < (rv.r.secs.length:Int) - 1:=hkl;have hne:w.heap.size+1≠Wd.heap.size:=by have:=hz2.lt;omega
      have hz5:=hz4.far (p:=⟨Wd.heap.size,2,none⟩) hne (.int .i64 (tim+1));have hb5:=hb4.setCell (p:=⟨Wd.heap.size,2,none⟩) hb2d.size (.int .i64 (tim+1));clear ht hkl;have y28:=hv4.cell 28;have yl:=hv4.lt;simp only[gqA,gqZ,gqS] at y28;have r0:=hz4.cell 0;have r1:=hz4.cell 1;have r2:=hz4.cell 2;have rf:=hz4.free;have rl:=hz4.lt;simp only[gqA,gqZ,gqS] at r0 r1 r2;have HF:=hE (aIq (((hz5.set 0 (.int .i64 3)).set 1 (.int .i64 (k:Int))).set 2 (.int .i64 (tim+1))) (((hb5.setCell (p:=⟨w.heap.size+1,0,none⟩) (by simp) (.int .i64 3)).setCell (p:=⟨w.heap.size+1,1,none⟩) (by simp) (.int .i64 (k:Int))).setCell (p:=⟨w.heap.size+1,2,none⟩) (by simp) (.int .i64 (tim+1))));go_wp2_with fail
      obtain ⟨p,hbf⟩:=HF.out;have p0:=p.cell 0;have p1:=p.cell 1;have p2:=p.cell 2;have pl:=p.lt;simp only[gqA,gqZ,gqS,lsz,lss,lsa] at p0 p1 p2
      exact bodyPost_ret (v:=.agg #[.int .i64 3,.int .i64 (k:Int),.int .i64 (tim+1)]) (by simp[results,Tryz.results67,go_sem,p0,p1,p2,pl,r0,r1,r2,rl]) rfl ⟨by rw[←HX.out];rfl,hbf⟩
   | false=>
    by_cases hkl:(k:Int)=(rv.r.secs.length:Int) - 1
    ·have te:((k:Int)==(rv.r.secs.length:Int) - 1)=true:=by simpa using hkl
     have HX:Hid (zS=z9t i.i rv.r ⟨st,(k:Int),tim⟩ false pas false emp):=hE (by rw[HX0.out];simp[hkl]);clear hkl;have r0:=hz4.cell 0;have r1:=hz4.cell 1;have r2:=hz4.cell 2;have rf:=hz4.free;have rl:=hz4.lt;simp only[gqA,gqZ,gqS] at r0 r1 r2;have HF:=hE (aIq ((((hz4.set 0 (.int .i64 0)).set 1 (.int .i64 0)).set 2 (.int .i64 0))) ((((hb4.setCell (p:=⟨w.heap.size+1,0,none⟩) (by simp) (.int .i64 0)).setCell (p:=⟨w.heap.size+1,1,none⟩) (by simp) (.int .i64 0)).setCell (p:=⟨w.heap.size+1,2,none⟩) (by simp) (.int .i64 0))));go_wp2_with fail
     obtain ⟨p,hbf⟩:=HF.out;have p0:=p.cell 0;have p1:=p.cell 1;have p2:=p.cell 2;have pl:=p.lt;simp only[gqA,gqZ,gqS,lsz,lss,lsa] at p0 p1 p2;exact bodyPost_ret (v:=.agg #[.int .i64 0,.int .i64 0,.int .i64 0]) (by simp[results,Tryz.results67,go_sem,p0,p1,p2,pl,r0,r1,r2,rl]) rfl ⟨by rw[←HX.out];rfl,hbf⟩
    ·have te:((k:Int)==(rv.r.secs.length:Int) - 1)=false:=by simpa using hkl
     have hk1:k+1 < rv.r.secs.length:=by omega
     have hk1i:(k:Int)+1 < (rv.r.secs.length:Int):=by omega
     have hk0i:(0:Int)≤(k:Int)+1:=by omega
     have hkl2:=hE hkl;obtain ⟨b4,off4,hA4,lb4,ho4,q4⟩:=HRD.out.elI hk1;rw[HA3.out] at hA4;simp only[qE,Addr.mk.injEq,and_true] at hA4;obtain ⟨rfl,rfl⟩:=hA4;have hbw4:Below W2.heap.size W2 w4:=z00 hbw3 hbw3.size hq4';have q5:=(hbw4.cell (p:=⟨b3,off3+(k+1),none⟩) lb3').trans q4;have lb4':b3 < w4.heap.size:=nT lb3' hbw4.size;have hvl4:=hv4.lt;have hne:w.heap.size+1≠Wd.heap.size:=by have:=hz2.lt;omega
     have HD:Hid (rv.r.secs.getD (k+1) 0=rv.r.secs[k+1]):=hE (by simp[List.getD,hk1]);have HO2:=hE fun W' (h:Below w4.heap.size w4 W')=>z1q i rv.r.secs[k+1] W' (hi.now (z00 hb4 hb4.size h))
     generalize rv.r.secs[k+1]=s1 at *;obtain ⟨d1,hd1⟩:∃ c,z2t i.i.occ s1=c:=⟨_,rfl⟩
     rw[hd1] at HO2;have HD1:=hE hd1;clear hd1 hkl hk1 q4 ho4 lb4 hbw4
     cases pas with
     | true=>
      have HS4:Hid (∀ W,Below w4.heap.size w4 W→(fun w'=>w'.cell? ⟨w.heap.size,5,none⟩=some (.slice i.A1 i.i.occ.length i.c1)∧w'.cell? ⟨w.heap.size,6,none⟩=some (.slice i.A2 i.i.det.length i.c2)∧w'.cell? ⟨w.heap.size,7,none⟩=some (.slice i.A3 i.i.clo.length i.c3)∧w'.cell? ⟨w.heap.size,8,none⟩=some (.slice i.A4 i.i.cla.length i.c4)∧w'.cell? ⟨w.heap.size,9,none⟩=some (.slice i.A5 i.i.pas.length i.c5)∧w'.cell? ⟨w.heap.size,10,none⟩=some (.slice i.A6 i.i.calls.length i.c6)∧w'.cell? ⟨w.heap.size,11,none⟩=some (.slice i.A7 i.i.cans.length i.c7)∧w'.cell? ⟨w.heap.size,17,none⟩=some (.slice (some ⟨b3,off3,none⟩) rv.r.secs.length rv.c3)∧w'.cell? ⟨w.heap.size,30,none⟩=some (.bool true)∧w'.cell? ⟨b3,off3+(k+1),none⟩=some (.int .i64 s1)∧Below w4.heap.size w4 w') W):=hE fun W h=>⟨(h.cell (p:=⟨w.heap.size,5,none⟩) hvl4).trans (hv4.cell 5),(h.cell (p:=⟨w.heap.size,6,none⟩) hvl4).trans (hv4.cell 6),(h.cell (p:=⟨w.heap.size,7,none⟩) hvl4).trans (hv4.cell 7),(h.cell (p:=⟨w.heap.size,8,none⟩) hvl4).trans (hv4.cell 8),(h.cell (p:=⟨w.heap.size,9,none⟩) hvl4).trans (hv4.cell 9),(h.cell (p:=⟨w.heap.size,10,none⟩) hvl4).trans (hv4.cell 10),(h.cell (p:=⟨w.heap.size,11,none⟩) hvl4).trans (hv4.cell 11),(h.cell (p:=⟨w.heap.size,17,none⟩) hvl4).trans ((hv4.cell 17).trans (by rw[HA3.out];rfl)),(h.cell (p:=⟨w.heap.size,30,none⟩) hvl4).trans (hv4.cell 30),(h.cell (p:=⟨b3,off3+(k+1),none⟩) lb4').trans q5,h⟩
      go_wp2_with fail;refine rgS 14 HS4 fun hHeld=>?_
      refine tkM 14 [0,1,2,3,4,5,6,7,8,9,10,11,12,13] ?_;refine wdn ?_;obtain ⟨We,hWe⟩:∃ W,W=w4.drew:=⟨_,rfl⟩
      have hbe:Below w4.heap.size w4 We:=by rw[hWe];exact bQ.drew
      rw[←hWe];clear hWe HS4 hHeld HO2;have hb5:=z00 hb4 hb4.size hbe;have hz5:=hz4.now hbe;have hst5:=hst4.now hbe;have hz6:=hz5.far (p:=⟨Wd.heap.size,1,none⟩) hne (.int .i64 ((k:Int)+1));have hb6:=hb5.setCell (p:=⟨Wd.heap.size,1,none⟩) hb2d.size (.int .i64 ((k:Int)+1));have u0:=hst5.cell 0;have u1:=hst5.cell 1;have u2:=hst5.cell 2;have ul:=hst5.lt;have uf:=hst5.free;simp only[gqA,gqZ,gqS] at u0 u1 u2;clear t0 t1 t2 tl tf;have HX:Hid (⟨3,(k:Int)+1,0⟩=z9t i.i rv.r ⟨st,(k:Int),tim⟩ false true false emp):=hE (by rw[HX0.out,HD.out,HD1.out];simp[hkl2.out]);have r0:=hz5.cell 0;have r1:=hz5.cell 1;have r2:=hz5.cell 2;have rf:=hz5.free;have rl:=hz5.lt;simp only[gqA,gqZ,gqS] at r0 r1 r2;have HF:=hE (aIq (((hz6.set 0 (.int .i64 3)).set 1 (.int .i64 ((k:Int)+1))).set 2 (.int .i64 0)) (((hb6.setCell (p:=⟨w.heap.size+1,0,none⟩) (by simp) (.int .i64 3)).setCell (p:=⟨w.heap.size+1,1,none⟩) (by simp) (.int .i64 ((k:Int)+1))).setCell (p:=⟨w.heap.size+1,2,none⟩) (by simp) (.int .i64 0)));go_wp2_with fail
      obtain ⟨p,hbf⟩:=HF.out;have p0:=p.cell 0;have p1:=p.cell 1;have p2:=p.cell 2;have pl:=p.lt;simp only[gqA,gqZ,gqS,lsz,lss,lsa] at p0 p1 p2
      exact bodyPost_ret (v:=.agg #[.int .i64 3,.int .i64 ((k:Int)+1),.int .i64 0]) (by simp[results,Tryz.results67,go_sem,p0,p1,p2,pl,r0,r1,r2,rl]) rfl ⟨by rw[←HX.out];rfl,hbf⟩
     | false=>
      have HS4:Hid (∀ W,Below w4.heap.size w4 W→(fun w'=>w'.cell? ⟨w.heap.size,5,none⟩=some (.slice i.A1 i.i.occ.length i.c1)∧w'.cell? ⟨w.heap.size,6,none⟩=some (.slice i.A2 i.i.det.length i.c2)∧w'.cell? ⟨w.heap.size,7,none⟩=some (.slice i.A3 i.i.clo.length i.c3)∧w'.cell? ⟨w.heap.size,8,none⟩=some (.slice i.A4 i.i.cla.length i.c4)∧w'.cell? ⟨w.heap.size,9,none⟩=some (.slice i.A5 i.i.pas.length i.c5)∧w'.cell? ⟨w.heap.size,10,none⟩=some (.slice i.A6 i.i.calls.length i.c6)∧w'.cell? ⟨w.heap.size,11,none⟩=some (.slice i.A7 i.i.cans.length i.c7)∧w'.cell? ⟨w.heap.size,17,none⟩=some (.slice (some ⟨b3,off3,none⟩) rv.r.secs.length rv.c3)∧w'.cell? ⟨w.heap.size,30,none⟩=some (.bool false)∧w'.cell? ⟨b3,off3+(k+1),none⟩=some (.int .i64 s1)∧Below w4.heap.size w4 w') W):=hE fun W h=>⟨(h.cell (p:=⟨w.heap.size,5,none⟩) hvl4).trans (hv4.cell 5),(h.cell (p:=⟨w.heap.size,6,none⟩) hvl4).trans (hv4.cell 6),(h.cell (p:=⟨w.heap.size,7,none⟩) hvl4).trans (hv4.cell 7),(h.cell (p:=⟨w.heap.size,8,none⟩) hvl4).trans (hv4.cell 8),(h.cell (p:=⟨w.heap.size,9,none⟩) hvl4).trans (hv4.cell 9),(h.cell (p:=⟨w.heap.size,10,none⟩) hvl4).trans (hv4.cell 10),(h.cell (p:=⟨w.heap.size,11,none⟩) hvl4).trans (hv4.cell 11),(h.cell (p:=⟨w.heap.size,17,none⟩) hvl4).trans ((hv4.cell 17).trans (by rw[HA3.out];rfl)),(h.cell (p:=⟨w.heap.size,30,none⟩) hvl4).trans (hv4.cell 30),(h.cell (p:=⟨b3,off3+(k+1),none⟩) lb4').trans q5,h⟩
      go_wp2_with fail;refine rgS 14 HS4 fun hHeld=>?_
      refine tkM 12 [0,1,2,3,4,5,6,7,8,9,10,11] ?_;refine rd1 12 rfl fun K hK=>?_
      go_simp;go_at_call 110
      refine (HO2.out _ bQ.drew).mono ?_;rintro e w5 ⟨rfl,hq5⟩;have hq5':Below w4.heap.size w4 w5:=bQ.drew.trans hq5;go_wp2_with fail
      refine hK.out _ _ (HS4.out _ hq5') (fun hHeld=>?_);clear hK K;try simp only[Act.put,lsa,lsz,lss]
      refine tkM 1 [13] ?_;refine wdn ?_;have hb5:=z00 hb4 hb4.size hq5';have hz5:=hz4.now hq5';have hst5:=hst4.now hq5';clear HS4 hHeld HO2 hq5
      cases d1 with
      | true=>
       have hz6:=hz5.far (p:=⟨Wd.heap.size,1,none⟩) hne (.int .i64 ((k:Int)+1));have hb6:=hb5.setCell (p:=⟨Wd.heap.size,1,none⟩) hb2d.size (.int .i64 ((k:Int)+1));have u0:=hst5.cell 0;have u1:=hst5.cell 1;have u2:=hst5.cell 2;have ul:=hst5.lt;have uf:=hst5.free;simp only[gqA,gqZ,gqS] at u0 u1 u2;clear t0 t1 t2 tl tf;have HX:Hid (⟨3,(k:Int)+1,0⟩=z9t i.i rv.r ⟨st,(k:Int),tim⟩ false false false emp):=hE (by rw[HX0.out,HD.out,HD1.out];simp[hkl2.out]);have r0:=hz5.cell 0;have r1:=hz5.cell 1;have r2:=hz5.cell 2;have rf:=hz5.free;have rl:=hz5.lt;simp only[gqA,gqZ,gqS] at r0 r1 r2;have HF:=hE (aIq (((hz6.set 0 (.int .i64 3)).set 1 (.int .i64 ((k:Int)+1))).set 2 (.int .i64 0)) (((hb6.setCell (p:=⟨w.heap.size+1,0,none⟩) (by simp) (.int .i64 3)).setCell (p:=⟨w.heap.size+1,1,none⟩) (by simp) (.int .i64 ((k:Int)+1))).setCell (p:=⟨w.heap.size+1,2,none⟩) (by simp) (.int .i64 0)));go_wp2_with fail
       obtain ⟨p,hbf⟩:=HF.out;have p0:=p.cell 0;have p1:=p.cell 1;have p2:=p.cell 2;have pl:=p.lt;simp only[gqA,gqZ,gqS,lsz,lss,lsa] at p0 p1 p2
       exact bodyPost_ret (v:=.agg #[.int .i64 3,.int .i64 ((k:Int)+1),.int .i64 0]) (by simp[results,Tryz.results67,go_sem,p0,p1,p2,pl,r0,r1,r2,rl]) rfl ⟨by rw[←HX.out];rfl,hbf⟩
      | false=>
       have u0:=hst5.cell 0;have u1:=hst5.cell 1;have u2:=hst5.cell 2;have ul:=hst5.lt;simp only[gqA,gqZ,gqS] at u0 u1 u2;clear t0 t1 t2 tl tf;have HX:Hid (⟨3,(k:Int),0⟩=z9t i.i rv.r ⟨st,(k:Int),tim⟩ false false false emp):=hE (by rw[HX0.out,HD.out,HD1.out];simp[hkl2.out]);have r0:=hz5.cell 0;have r1:=hz5.cell 1;have r2:=hz5.cell 2;have rf:=hz5.free;have rl:=hz5.lt;simp only[gqA,gqZ,gqS] at r0 r1 r2;have HF:=hE (aIq (((hz5.set 0 (.int .i64 3)).set 1 (.int .i64 (k:Int))).set 2 (.int .i64 0)) (((hb5.setCell (p:=⟨w.heap.size+1,0,none⟩) (by simp) (.int .i64 3)).setCell (p:=⟨w.heap.size+1,1,none⟩) (by simp) (.int .i64 (k:Int))).setCell (p:=⟨w.heap.size+1,2,none⟩) (by simp) (.int .i64 0)));go_wp2_with fail
       obtain ⟨p,hbf⟩:=HF.out;have p0:=p.cell 0;have p1:=p.cell 1;have p2:=p.cell 2;have pl:=p.lt;simp only[gqA,gqZ,gqS,lsz,lss,lsa] at p0 p1 p2
       exact bodyPost_ret (v:=.agg #[.int .i64 3,.int .i64 (k:Int),.int .i64 0]) (by simp[results,Tryz.results67,go_sem,p0,p1,p2,pl,r0,r1,r2,rl]) rfl ⟨by rw[←HX.out];rfl,hbf⟩
  | true=>
   cases emp with
   | true=>
    have HX:Hid (⟨4,(k:Int),0⟩=z9t i.i rv.r ⟨st,(k:Int),tim⟩ false pas true true):=hE (by rw[HX0.out];simp);have r0:=hz2.cell 0;have r1:=hz2.cell 1;have r2:=hz2.cell 2;have rf:=hz2.free;have rl:=hz2.lt;simp only[gqA,gqZ,gqS] at r0 r1 r2;have HF:=hE (aIq ((((hz2.set 0 (.int .i64 (4))).set 1 (.int .i64 ((k:Int)))).set 2 (.int .i64 (0))).alloc (.cells #[.int .i64 3,.int .i64 (k:Int),.int .i64 0] 58)) ((((hb2d.setCell (p:=⟨w.heap.size+1,0,none⟩) (by simp) (.int .i64 (4))).setCell (p:=⟨w.heap.size+1,1,none⟩) (by simp) (.int .i64 ((k:Int)))).setCell (p:=⟨w.heap.size+1,2,none⟩) (by simp) (.int .i64 (0))).alloc (by simp;omega) (.cells #[.int .i64 3,.int .i64 (k:Int),.int .i64 0] 58)));go_wp2_with fail
    obtain ⟨p,hbf⟩:=HF.out;have p0:=p.cell 0;have p1:=p.cell 1;have p2:=p.cell 2;have pl:=p.lt;simp only[gqA,gqZ,gqS,lsz,lss,lsa] at p0 p1 p2
    exact bodyPost_ret (v:=.agg #[.int .i64 (4),.int .i64 ((k:Int)),.int .i64 (0)]) (by simp[results,Tryz.results67,go_sem,p0,p1,p2,pl,r0,r1,r2,rl]) rfl ⟨by rw[←HX.out];rfl,hbf⟩
   | false=>
    obtain ⟨W3,hW3⟩:∃ W,W=Wd.alloc (.cells #[.int .i64 3,.int .i64 (k:Int),.int .i64 0] 58):=⟨_,rfl⟩
    have hbe3:Below Wd.heap.size Wd W3:=by rw[hW3];exact bQ.alloc nL _
    have hst:Blk W3 Wd.heap.size 58 #[.int .i64 3,.int .i64 (k:Int),.int .i64 0]:=by rw[hW3];exact Blk.new _ _ _ _ rfl
    have hv3:=hv2.now hbe3;have hz3:=hz2.now hbe3;have hb3:=z00 hb2d hb2d.size hbe3;have hvl3:=hv3.lt;have lb33:b3 < W3.heap.size:=nT lbd hbe3.size;have q3:=(hbe3.cell (p:=⟨b3,off3+k,none⟩) lbd).trans qd;have hbw3:=z00 hbd hbd.size hbe3;have HS3:Hid (∀ W,Below W3.heap.size W3 W→(fun w'=>w'.cell? ⟨w.heap.size,5,none⟩=some (.slice i.A1 i.i.occ.length i.c1)∧w'.cell? ⟨w.heap.size,6,none⟩=some (.slice i.A2 i.i.det.length i.c2)∧w'.cell? ⟨w.heap.size,7,none⟩=some (.slice i.A3 i.i.clo.length i.c3)∧w'.cell? ⟨w.heap.size,8,none⟩=some (.slice i.A4 i.i.cla.length i.c4)∧w'.cell? ⟨w.heap.size,9,none⟩=some (.slice i.A5 i.i.pas.length i.c5)∧w'.cell? ⟨w.heap.size,10,none⟩=some (.slice i.A6 i.i.calls.length i.c6)∧w'.cell? ⟨w.heap.size,11,none⟩=some (.slice i.A7 i.i.cans.length i.c7)∧w'.cell? ⟨w.heap.size,17,none⟩=some (.slice (some ⟨b3,off3,none⟩) rv.r.secs.length rv.c3)∧w'.cell? ⟨b3,off3+k,none⟩=some (.int .i64 s0)∧Below W3.heap.size W3 w') W):=hE fun W h=>⟨(h.cell (p:=⟨w.heap.size,5,none⟩) hvl3).trans (hv3.cell 5),(h.cell (p:=⟨w.heap.size,6,none⟩) hvl3).trans (hv3.cell 6),(h.cell (p:=⟨w.heap.size,7,none⟩) hvl3).trans (hv3.cell 7),(h.cell (p:=⟨w.heap.size,8,none⟩) hvl3).trans (hv3.cell 8),(h.cell (p:=⟨w.heap.size,9,none⟩) hvl3).trans (hv3.cell 9),(h.cell (p:=⟨w.heap.size,10,none⟩) hvl3).trans (hv3.cell 10),(h.cell (p:=⟨w.heap.size,11,none⟩) hvl3).trans (hv3.cell 11),(h.cell (p:=⟨w.heap.size,17,none⟩) hvl3).trans ((hv3.cell 17).trans (by rw[HA3.out];rfl)),(h.cell (p:=⟨b3,off3+k,none⟩) lb33).trans q3,h⟩
    go_wp2_with fail;rw[←hW3];clear hW3 x29 x31 x32 xl q3 lb33 hvl3;refine rgS 10 HS3 fun hHeld=>?_
    refine tkM 8 [0,1,2,3,4,5,6,7] ?_;refine rd1 8 rfl fun K hK=>?_
    go_simp;go_at_call 110
    refine (HO1.out _ (z00 hbw3 hbw3.size bQ.drew)).mono ?_;rintro e w4 ⟨rfl,hq4⟩;have hq4':Below W3.heap.size W3 w4:=bQ.drew.trans hq4;go_wp2_with fail
    refine hK.out _ _ (HS3.out _ hq4') (fun hHeld=>?_);clear hK K;try simp only[Act.put,lsa,lsz,lss]
    refine tkM 1 [9] ?_;refine wdn ?_;have hb4:=z00 hb3 hb3.size hq4';have hv4:=hv3.now hq4';have hz4:=hz3.now hq4';have hst4:=hst.now hq4';have hsz24:w.heap.size≤W2.heap.size:=hb2.size;clear HS3 hq4 hHeld hv3 hz3 hst hb3;have t0:=hst4.cell 0;have t1:=hst4.cell 1;have t2:=hst4.cell 2;have tl:=hst4.lt;have tf:=hst4.free;simp only[gqA,gqZ,gqS] at t0 t1 t2
    cases d0 with
    | true=>
     by_cases hkl:(k:Int) < (rv.r.secs.length:Int) - 1
     ·have HX:Hid (⟨3,(k:Int),0⟩=z9t i.i rv.r ⟨st,(k:Int),tim⟩ false pas true false):=hE (by rw[HX0.out];simp[hkl]);have r0:=hz4.cell 0;have r1:=hz4.cell 1;have r2:=hz4.cell 2;have rf:=hz4.free;have rl:=hz4.lt;simp only[gqA,gqZ,gqS] at r0 r1 r2;have HF:=hE (aIq ((((hz4.set 0 (.int .i64 (3))).set 1 (.int .i64 ((k:Int)))).set 2 (.int .i64 (0)))) ((((hb4.setCell (p:=⟨w.heap.size+1,0,none⟩) (by simp) (.int .i64 (3))).setCell (p:=⟨w.heap.size+1,1,none⟩) (by simp) (.int .i64 ((k:Int)))).setCell (p:=⟨w.heap.size+1,2,none⟩) (by simp) (.int .i64 (0)))));go_wp2_with fail
      obtain ⟨p,hbf⟩:=HF.out;have p0:=p.cell 0;have p1:=p.cell 1;have p2:=p.cell 2;have pl:=p.lt;simp only[gqA,gqZ,gqS,lsz,lss,lsa] at p0 p1 p2;exact bodyPost_ret (v:=.agg #[.int .i64 (3),.int .i64 ((k:Int)),.int .i64 (0)]) (by simp[results,Tryz.results67,go_sem,p0,p1,p2,pl,r0,r1,r2,rl]) rfl ⟨by rw[←HX.out];rfl,hbf⟩
     ·by_cases ht:tim+1=4
      ·have te:(tim+1==4)=true:=by rw[ht];rfl
       have HX:Hid (zS=z9t i.i rv.r ⟨st,(k:Int),tim⟩ false pas true false):=hE (by rw[HX0.out];simp[hkl,ht]);have hkn:¬(k:Int) < (rv.r.secs.length:Int) - 1:=hkl;have hne:w.heap.size+1≠Wd.heap.size:=by have:=hz2.lt;omega
       have hz5:=hz4.far (p:=⟨Wd.heap.size,2,none⟩) hne (.int .i64 (tim+1));have hb5:=hb4.setCell (p:=⟨Wd.heap.size,2,none⟩) hb2d.size (.int .i64 (tim+1));clear ht hkl;have y28:=hv4.cell 28;have yl:=hv4.lt;simp only[gqA,gqZ,gqS] at y28;have r0:=hz4.cell 0;have r1:=hz4.cell 1;have r2:=hz4.cell 2;have rf:=hz4.free;have rl:=hz4.lt;simp only[gqA,gqZ,gqS] at r0 r1 r2;have HF:=hE (aIq (((hz5.set 0 (.int .i64 0)).set 1 (.int .i64 0)).set 2 (.int .i64 0)) (((hb5.setCell (p:=⟨w.heap.size+1,0,none⟩) (by simp) (.int .i64 0)).setCell (p:=⟨w.heap.size+1,1,none⟩) (by simp) (.int .i64 0)).setCell (p:=⟨w.heap.size+1,2,none⟩) (by simp) (.int .i64 0)));go_wp2_with fail
       obtain ⟨p,hbf⟩:=HF.out;have p0:=p.cell 0;have p1:=p.cell 1;have p2:=p.cell 2;have pl:=p.lt;simp only[gqA,gqZ,gqS,lsz,lss,lsa] at p0 p1 p2;exact bodyPost_ret (v:=.agg #[.int .i64 0,.int .i64 0,.int .i64 0]) (by simp[results,Tryz.results67,go_sem,p0,p1,p2,pl,r0,r1,r2,rl]) rfl ⟨by rw[←HX.out];rfl,hbf⟩
      ·have te:(tim+1==4)=false:=by simpa using ht
       have HX:Hid (⟨3,k,tim+1⟩=z9t i.i rv.r ⟨st,(k:Int),tim⟩ false pas true false):=hE (by rw[HX0.out];simp[hkl,ht]);have hkn:¬(k:Int) < (rv.r.secs.length:Int) - 1:=hkl;have hne:w.heap.size+1≠Wd.heap.size:=by have:=hz2.lt;omega
       have hz5:=hz4.far (p:=⟨Wd.heap.size,2,none⟩) hne (.int .i64 (tim+1));have hb5:=hb4.setCell (p:=⟨Wd.heap.size,2,none⟩) hb2d.size (.int .i64 (tim+1));clear ht hkl;have y28:=hv4.cell 28;have yl:=hv4.lt;simp only[gqA,gqZ,gqS] at y28;have r0:=hz4.cell 0;have r1:=hz4.cell 1;have r2:=hz4.cell 2;have rf:=hz4.free;have rl:=hz4.lt;simp only[gqA,gqZ,gqS] at r0 r1 r2;have HF:=hE (aIq (((hz5.set 0 (.int .i64 3)).set 1 (.int .i64 (k:Int))).set 2 (.int .i64 (tim+1))) (((hb5.setCell (p:=⟨w.heap.size+1,0,none⟩) (by simp) (.int .i64 3)).setCell (p:=⟨w.heap.size+1,1,none⟩) (by simp) (.int .i64 (k:Int))).setCell (p:=⟨w.heap.size+1,2,none⟩) (by simp) (.int .i64 (tim+1))));go_wp2_with fail
       obtain ⟨p,hbf⟩:=HF.out;have p0:=p.cell 0;have p1:=p.cell 1;have p2:=p.cell 2;have pl:=p.lt;simp only[gqA,gqZ,gqS,lsz,lss,lsa] at p0 p1 p2
       exact bodyPost_ret (v:=.agg #[.int .i64 3,.int .i64 (k:Int),.int .i64 (tim+1)]) (by simp[results,Tryz.results67,go_sem,p0,p1,p2,pl,r0,r1,r2,rl]) rfl ⟨by rw[←HX.out];rfl,hbf⟩
    | false=>
     by_cases hkl:(k:Int)=(rv.r.secs.length:Int) - 1
     ·have te:((k:Int)==(rv.r.secs.length:Int) - 1)=true:=by simpa using hkl
      have HX:Hid (zS=z9t i.i rv.r ⟨st,(k:Int),tim⟩ false pas true false):=hE (by rw[HX0.out];simp[hkl]);clear hkl;have r0:=hz4.cell 0;have r1:=hz4.cell 1;have r2:=hz4.cell 2;have rf:=hz4.free;have rl:=hz4.lt;simp only[gqA,gqZ,gqS] at r0 r1 r2;have HF:=hE (aIq ((((hz4.set 0 (.int .i64 0)).set 1 (.int .i64 0)).set 2 (.int .i64 0))) ((((hb4.setCell (p:=⟨w.heap.size+1,0,none⟩) (by simp) (.int .i64 0)).setCell (p:=⟨w.heap.size+1,1,none⟩) (by simp) (.int .i64 0)).setCell (p:=⟨w.heap.size+1,2,none⟩) (by simp) (.int .i64 0))));go_wp2_with fail
      obtain ⟨p,hbf⟩:=HF.out;have p0:=p.cell 0;have p1:=p.cell 1;have p2:=p.cell 2;have pl:=p.lt;simp only[gqA,gqZ,gqS,lsz,lss,lsa] at p0 p1 p2;exact bodyPost_ret (v:=.agg #[.int .i64 0,.int .i64 0,.int .i64 0]) (by simp[results,Tryz.results67,go_sem,p0,p1,p2,pl,r0,r1,r2,rl]) rfl ⟨by rw[←HX.out];rfl,hbf⟩
     ·have te:((k:Int)==(rv.r.secs.length:Int) - 1)=false:=by simpa using hkl
      have hk1:k+1 < rv.r.secs.length:=by omega
      have hk1i:(k:Int)+1 < (rv.r.secs.length:Int):=by omega
      have hk0i:(0:Int)≤(k:Int)+1:=by omega
      have hkl2:=hE hkl;obtain ⟨b4,off4,hA4,lb4,ho4,q4⟩:=HRD.out.elI hk1;rw[HA3.out] at hA4;simp only[qE,Addr.mk.injEq,and_true] at hA4;obtain ⟨rfl,rfl⟩:=hA4;have hbw4:Below W2.heap.size W2 w4:=z00 hbw3 hbw3.size hq4';have q5:=(hbw4.cell (p:=⟨b3,off3+(k+1),none⟩) lb3').trans q4;have lb4':b3 < w4.heap.size:=nT lb3' hbw4.size;have hvl4:=hv4.lt;have hne:w.heap.size+1≠Wd.heap.size:=by have:=hz2.lt;omega
      have HD:Hid (rv.r.secs.getD (k+1) 0=rv.r.secs[k+1]):=hE (by simp[List.getD,hk1]);have HO2:=hE fun W' (h:Below w4.heap.size w4 W')=>z1q i rv.r.secs[k+1] W' (hi.now (z00 hb4 hb4.size h))
      generalize rv.r.secs[k+1]=s1 at *;obtain ⟨d1,hd1⟩:∃ c,z2t i.i.occ s1=c:=⟨_,rfl⟩
      rw[hd1] at HO2;have HD1:=hE hd1;clear hd1 hkl hk1 q4 ho4 lb4 hbw4
      cases pas with
      | true=>
       have HS4:Hid (∀ W,Below w4.heap.size w4 W→(fun w'=>w'.cell? ⟨w.heap.size,5,none⟩=some (.slice i.A1 i.i.occ.length i.c1)∧w'.cell? ⟨w.heap.size,6,none⟩=some (.slice i.A2 i.i.det.length i.c2)∧w'.cell? ⟨w.heap.size,7,none⟩=some (.slice i.A3 i.i.clo.length i.c3)∧w'.cell? ⟨w.heap.size,8,none⟩=some (.slice i.A4 i.i.cla.length i.c4)∧w'.cell? ⟨w.heap.size,9,none⟩=some (.slice i.A5 i.i.pas.length i.c5)∧w'.cell? ⟨w.heap.size,10,none⟩=some (.slice i.A6 i.i.calls.length i.c6)∧w'.cell? ⟨w.heap.size,11,none⟩=some (.slice i.A7 i.i.cans.length i.c7)∧w'.cell? ⟨w.heap.size,17,none⟩=some (.slice (some ⟨b3,off3,none⟩) rv.r.secs.length rv.c3)∧w'.cell? ⟨w.heap.size,30,none⟩=some (.bool true)∧w'.cell? ⟨b3,off3+(k+1),none⟩=some (.int .i64 s1)∧Below w4.heap.size w4 w') W):=hE fun W h=>⟨(h.cell (p:=⟨w.heap.size,5,none⟩) hvl4).trans (hv4.cell 5),(h.cell (p:=⟨w.heap.size,6,none⟩) hvl4).trans (hv4.cell 6),(h.cell (p:=⟨w.heap.size,7,none⟩) hvl4).trans (hv4.cell 7),(h.cell (p:=⟨w.heap.size,8,none⟩) hvl4).trans (hv4.cell 8),(h.cell (p:=⟨w.heap.size,9,none⟩) hvl4).trans (hv4.cell 9),(h.cell (p:=⟨w.heap.size,10,none⟩) hvl4).trans (hv4.cell 10),(h.cell (p:=⟨w.heap.size,11,none⟩) hvl4).trans (hv4.cell 11),(h.cell (p:=⟨w.heap.size,17,none⟩) hvl4).trans ((hv4.cell 17).trans (by rw[HA3.out];rfl)),(h.cell (p:=⟨w.heap.size,30,none⟩) hvl4).trans (hv4.cell 30),(h.cell (p:=⟨b3,off3+(k+1),none⟩) lb4').trans q5,h⟩
       go_wp2_with fail;refine rgS 14 HS4 fun hHeld=>?_
       refine tkM 14 [0,1,2,3,4,5,6,7,8,9,10,11,12,13] ?_;refine wdn ?_;obtain ⟨We,hWe⟩:∃ W,W=w4.drew:=⟨_,rfl⟩
       have hbe:Below w4.heap.size w4 We:=by rw[hWe];exact bQ.drew
       rw[←hWe];clear hWe HS4 hHeld HO2;have hb5:=z00 hb4 hb4.size hbe;have hz5:=hz4.now hbe;have hst5:=hst4.now hbe;have hz6:=hz5.far (p:=⟨Wd.heap.size,1,none⟩) hne (.int .i64 ((k:Int)+1));have hb6:=hb5.setCell (p:=⟨Wd.heap.size,1,none⟩) hb2d.size (.int .i64 ((k:Int)+1));have u0:=hst5.cell 0;have u1:=hst5.cell 1;have u2:=hst5.cell 2;have ul:=hst5.lt;have uf:=hst5.free;simp only[gqA,gqZ,gqS] at u0 u1 u2;clear t0 t1 t2 tl tf;have HX:Hid (⟨3,(k:Int)+1,0⟩=z9t i.i rv.r ⟨st,(k:Int),tim⟩ false true true false):=hE (by rw[HX0.out,HD.out,HD1.out];simp[hkl2.out]);have r0:=hz5.cell 0;have r1:=hz5.cell 1;have r2:=hz5.cell 2;have rf:=hz5.free;have rl:=hz5.lt;simp only[gqA,gqZ,gqS] at r0 r1 r2;have HF:=hE (aIq (((hz6.set 0 (.int .i64 3)).set 1 (.int .i64 ((k:Int)+1))).set 2 (.int .i64 0)) (((hb6.setCell (p:=⟨w.heap.size+1,0,none⟩) (by simp) (.int .i64 3)).setCell (p:=⟨w.heap.size+1,1,none⟩) (by simp) (.int .i64 ((k:Int)+1))).setCell (p:=⟨w.heap.size+1,2,none⟩) (by simp) (.int .i64 0)));go_wp2_with fail
       obtain ⟨p,hbf⟩:=HF.out;have p0:=p.cell 0;have p1:=p.cell 1;have p2:=p.cell 2;have pl:=p.lt;simp only[gqA,gqZ,gqS,lsz,lss,lsa] at p0 p1 p2
       exact bodyPost_ret (v:=.agg #[.int .i64 3,.int .i64 ((k:Int)+1),.int .i64 0]) (by simp[results,Tryz.results67,go_sem,p0,p1,p2,pl,r0,r1,r2,rl]) rfl ⟨by rw[←HX.out];rfl,hbf⟩
      | false=>
       have HS4:Hid (∀ W,Below w4.heap.size w4 W→(fun w'=>w'.cell? ⟨w.heap.size,5,none⟩=some (.slice i.A1 i.i.occ.length i.c1)∧w'.cell? ⟨w.heap.size,6,none⟩=some (.slice i.A2 i.i.det.length i.c2)∧w'.cell? ⟨w.heap.size,7,none⟩=some (.slice i.A3 i.i.clo.length i.c3)∧w'.cell? ⟨w.heap.size,8,none⟩=some (.slice i.A4 i.i.cla.length i.c4)∧w'.cell? ⟨w.heap.size,9,none⟩=some (.slice i.A5 i.i.pas.length i.c5)∧w'.cell? ⟨w.heap.size,10,none⟩=some (.slice i.A6 i.i.calls.length i.c6)∧w'.cell? ⟨w.heap.size,11,none⟩=some (.slice i.A7 i.i.cans.length i.c7)∧w'.cell? ⟨w.heap.size,17,none⟩=some (.slice (some ⟨b3,off3,none⟩) rv.r.secs.length rv.c3)∧w'.cell? ⟨w.heap.size,30,none⟩=some (.bool false)∧w'.cell? ⟨b3,off3+(k+1),none⟩=some (.int .i64 s1)∧Below w4.heap.size w4 w') W):=hE fun W h=>⟨(h.cell (p:=⟨w.heap.size,5,none⟩) hvl4).trans (hv4.cell 5),(h.cell (p:=⟨w.heap.size,6,none⟩) hvl4).trans (hv4.cell 6),(h.cell (p:=⟨w.heap.size,7,none⟩) hvl4).trans (hv4.cell 7),(h.cell (p:=⟨w.heap.size,8,none⟩) hvl4).trans (hv4.cell 8),(h.cell (p:=⟨w.heap.size,9,none⟩) hvl4).trans (hv4.cell 9),(h.cell (p:=⟨w.heap.size,10,none⟩) hvl4).trans (hv4.cell 10),(h.cell (p:=⟨w.heap.size,11,none⟩) hvl4).trans (hv4.cell 11),(h.cell (p:=⟨w.heap.size,17,none⟩) hvl4).trans ((hv4.cell 17).trans (by rw[HA3.out];rfl)),(h.cell (p:=⟨w.heap.size,30,none⟩) hvl4).trans (hv4.cell 30),(h.cell (p:=⟨b3,off3+(k+1),none⟩) lb4').trans q5,h⟩
       go_wp2_with fail;refine rgS 14 HS4 fun hHeld=>?_
       refine tkM 12 [0,1,2,3,4,5,6,7,8,9,10,11] ?_;refine rd1 12 rfl fun K hK=>?_
       go_simp;go_at_call 110
       refine (HO2.out _ bQ.drew).mono ?_;rintro e w5 ⟨rfl,hq5⟩;have hq5':Below w4.heap.size w4 w5:=bQ.drew.trans hq5;go_wp2_with fail
       refine hK.out _ _ (HS4.out _ hq5') (fun hHeld=>?_);clear hK K;try simp only[Act.put,lsa,lsz,lss]
       refine tkM 1 [13] ?_;refine wdn ?_;have hb5:=z00 hb4 hb4.size hq5';have hz5:=hz4.now hq5';have hst5:=hst4.now hq5';clear HS4 hHeld HO2 hq5
       cases d1 with
       | true=>
        have hz6:=hz5.far (p:=⟨Wd.heap.size,1,none⟩) hne (.int .i64 ((k:Int)+1));have hb6:=hb5.setCell (p:=⟨Wd.heap.size,1,none⟩) hb2d.size (.int .i64 ((k:Int)+1));have u0:=hst5.cell 0;have u1:=hst5.cell 1;have u2:=hst5.cell 2;have ul:=hst5.lt;have uf:=hst5.free;simp only[gqA,gqZ,gqS] at u0 u1 u2;clear t0 t1 t2 tl tf;have HX:Hid (⟨3,(k:Int)+1,0⟩=z9t i.i rv.r ⟨st,(k:Int),tim⟩ false false true false):=hE (by rw[HX0.out,HD.out,HD1.out];simp[hkl2.out]);have r0:=hz5.cell 0;have r1:=hz5.cell 1;have r2:=hz5.cell 2;have rf:=hz5.free;have rl:=hz5.lt;simp only[gqA,gqZ,gqS] at r0 r1 r2;have HF:=hE (aIq (((hz6.set 0 (.int .i64 3)).set 1 (.int .i64 ((k:Int)+1))).set 2 (.int .i64 0)) (((hb6.setCell (p:=⟨w.heap.size+1,0,none⟩) (by simp) (.int .i64 3)).setCell (p:=⟨w.heap.size+1,1,none⟩) (by simp) (.int .i64 ((k:Int)+1))).setCell (p:=⟨w.heap.size+1,2,none⟩) (by simp) (.int .i64 0)));go_wp2_with fail
        obtain ⟨p,hbf⟩:=HF.out;have p0:=p.cell 0;have p1:=p.cell 1;have p2:=p.cell 2;have pl:=p.lt;simp only[gqA,gqZ,gqS,lsz,lss,lsa] at p0 p1 p2
        exact bodyPost_ret (v:=.agg #[.int .i64 3,.int .i64 ((k:Int)+1),.int .i64 0]) (by simp[results,Tryz.results67,go_sem,p0,p1,p2,pl,r0,r1,r2,rl]) rfl ⟨by rw[←HX.out];rfl,hbf⟩
       | false=>
        have u0:=hst5.cell 0;have u1:=hst5.cell 1;have u2:=hst5.cell 2;have ul:=hst5.lt;simp only[gqA,gqZ,gqS] at u0 u1 u2;clear t0 t1 t2 tl tf;have HX:Hid (⟨3,(k:Int),0⟩=z9t i.i rv.r ⟨st,(k:Int),tim⟩ false false true false):=hE (by rw[HX0.out,HD.out,HD1.out];simp[hkl2.out]);have r0:=hz5.cell 0;have r1:=hz5.cell 1;have r2:=hz5.cell 2;have rf:=hz5.free;have rl:=hz5.lt;simp only[gqA,gqZ,gqS] at r0 r1 r2;have HF:=hE (aIq (((hz5.set 0 (.int .i64 3)).set 1 (.int .i64 (k:Int))).set 2 (.int .i64 0)) (((hb5.setCell (p:=⟨w.heap.size+1,0,none⟩) (by simp) (.int .i64 3)).setCell (p:=⟨w.heap.size+1,1,none⟩) (by simp) (.int .i64 (k:Int))).setCell (p:=⟨w.heap.size+1,2,none⟩) (by simp) (.int .i64 0)));go_wp2_with fail
        obtain ⟨p,hbf⟩:=HF.out;have p0:=p.cell 0;have p1:=p.cell 1;have p2:=p.cell 2;have pl:=p.lt;simp only[gqA,gqZ,gqS,lsz,lss,lsa] at p0 p1 p2;exact bodyPost_ret (v:=.agg #[.int .i64 3,.int .i64 (k:Int),.int .i64 0]) (by simp[results,Tryz.results67,go_sem,p0,p1,p2,pl,r0,r1,r2,rl]) rfl ⟨by rw[←HX.out];rfl,hbf⟩
end Go.Proofs.YtpenlfedkacglaaGreatDoor
namespace Go.Proofs.YtpenlfedkacglaaGreatDoor
open Go.RowKit
section
variable {P:Program} {t:TypeId}
theorem z5d {α β:Type} {c:Cod α} {d:Cod β} (h:Opens P t c) (hs:c.size=d.size) (hr:∀ (w:World) (S:Nat→Prop) (cs:List Value) (a:α),c.rd w S cs a→c.fit a→∃ b,d.rd w S cs b∧d.fit b):Opens P t d:=
 ⟨h.size.trans hs,fun hx hf=>by obtain ⟨a,ha,hfa⟩:=h.opens hx hf;exact hr _ _ _ _ ha hfa⟩
end
theorem x4n:Opens Tryz.prog 103 cE:=by
 have i:=z8h (P:=Tryz.prog) Tryz.underlying3 (by kernel_rfl);refine z5d (c:=cP cS (cP cI (cP cI (cP cI (cP cI (cP cI (cP cI cN))))))) (z6y Tryz.underlying103 (by kernel_rfl) (z08 (by rfl) (y7t Tryz.underlying9 (by kernel_rfl)) (z08 (by rfl) i (z08 (by rfl) i (z08 (by rfl) i (z08 (by rfl) i (z08 (by rfl) i (z08 (by rfl) i z2z)))))))) rfl ?_;rintro w B cs ⟨a,b,c,d,e,f,g,_⟩ ⟨_,_,rfl,⟨rfl,ha⟩,_,_,rfl,⟨rfl,hb⟩,_,_,rfl,⟨rfl,hc⟩,_,_,rfl,⟨rfl,hd⟩,_,_,rfl,⟨rfl,he⟩,_,_,rfl,⟨rfl,hf⟩,_,_,rfl,⟨rfl,hg⟩,rfl⟩ _;exact ⟨⟨a,b,c,d,e,f,g⟩,⟨rfl,ha,hb,hc,hd,he,hf,hg⟩,trivial⟩
theorem y0f:Opens Tryz.prog 90 y1z:=by
 have i:=z8h (P:=Tryz.prog) Tryz.underlying3 (by kernel_rfl);refine z5d (c:=cP cI (cP cI cN)) (z6y Tryz.underlying90 (by kernel_rfl) (z08 (by rfl) i (z08 (by rfl) i z2z))) rfl ?_;rintro w B cs ⟨a,b,_⟩ ⟨_,_,rfl,⟨rfl,ha⟩,_,_,rfl,⟨rfl,hb⟩,rfl⟩ _;exact ⟨⟨a,b⟩,⟨rfl,ha,hb⟩,trivial⟩
theorem x4p:Opens Tryz.prog 107 cJ:=by
 refine z5d (c:=cP y1z (cP y1z cN)) (z6y Tryz.underlying107 (by kernel_rfl) (z08 (by rfl) y0f (z08 (by rfl) y0f z2z))) rfl ?_;rintro w B cs ⟨a,b,_⟩ ⟨_,_,rfl,⟨rfl,ha⟩,_,_,rfl,⟨rfl,hb⟩,rfl⟩ _;exact ⟨⟨a,b⟩,⟨rfl,ha,hb⟩,trivial⟩
theorem x4r:Opens Tryz.prog 105 cSg:=by
 have i:=z8h (P:=Tryz.prog) Tryz.underlying3 (by kernel_rfl);refine z5d (c:=cP cS (cP y1z (cP cI cN))) (z6y Tryz.underlying105 (by kernel_rfl) (z08 (by rfl) (y7t Tryz.underlying9 (by kernel_rfl)) (z08 (by rfl) y0f (z08 (by rfl) i z2z)))) rfl ?_;rintro w B cs ⟨a,b,c,_⟩ ⟨_,_,rfl,⟨rfl,ha⟩,_,_,rfl,⟨rfl,hb⟩,_,_,rfl,⟨rfl,hc⟩,rfl⟩ _;exact ⟨⟨a,b,c⟩,⟨rfl,ha,hb,hc⟩,trivial⟩
theorem x4m:Opens Tryz.prog 184 cBl:=by
 have i:=z8h (P:=Tryz.prog) Tryz.underlying3 (by kernel_rfl);refine z5d (c:=cP cI (cP cI (cP cI cN))) (z6y Tryz.underlying184 (by kernel_rfl) (z08 (by rfl) i (z08 (by rfl) i (z08 (by rfl) i z2z)))) rfl ?_;rintro w B cs ⟨a,b,c,_⟩ ⟨_,_,rfl,⟨rfl,ha⟩,_,_,rfl,⟨rfl,hb⟩,_,_,rfl,⟨rfl,hc⟩,rfl⟩ _;exact ⟨⟨a,b,c⟩,⟨rfl,ha,hb,hc⟩,trivial⟩
def lvC (v:LV):List Value:=[.string (bs v.l.name),.slice v.A1 v.l.secs.length v.c1,.slice v.A2 v.l.els.length v.c2,.slice v.A3 v.l.jts.length v.c3,.slice v.A4 v.l.sgs.length v.c4,.slice v.A5 v.l.bls.length v.c5]
def cLv:Cod LV where
 size:=6
 rd:=fun w S cs v=>cs=lvC v∧v.l.name.length≤maxLen∧((v.l.secs.length≤maxLen∧v.l.secs.length≤v.c1)∧RdS cS w S v.A1 v.l.secs)∧((v.l.els.length≤maxLen∧v.l.els.length≤v.c2)∧RdS cE w S v.A2 v.l.els)∧((v.l.jts.length≤maxLen∧v.l.jts.length≤v.c3)∧RdS cJ w S v.A3 v.l.jts)∧((v.l.sgs.length≤maxLen∧v.l.sgs.length≤v.c4)∧RdS cSg w S v.A4 v.l.sgs)∧((v.l.bls.length≤maxLen∧v.l.bls.length≤v.c5)∧RdS cBl w S v.A5 v.l.bls)
 fit:=fun v=>v.l.jts.length≤140737488351232
 len:=fun h=>by rw[h.1];rfl
 keep:=fun ⟨h0,h1,⟨m1,r1⟩,⟨m2,r2⟩,⟨m3,r3⟩,⟨m4,r4⟩,m5,r5⟩ hk=>⟨h0,h1,⟨m1,r1.keep hk⟩,⟨m2,r2.keep hk⟩,⟨m3,r3.keep hk⟩,⟨m4,r4.keep hk⟩,m5,r5.keep hk⟩
 more:=fun ⟨h0,h1,⟨m1,r1⟩,⟨m2,r2⟩,⟨m3,r3⟩,⟨m4,r4⟩,m5,r5⟩ hk=>⟨h0,h1,⟨m1,r1.more hk⟩,⟨m2,r2.more hk⟩,⟨m3,r3.more hk⟩,⟨m4,r4.more hk⟩,m5,r5.more hk⟩
theorem j5g {w:World} {cs:List Value} {v:LV} (h:cLv.rd w (Lt w) cs v):cs=lvC v∧LvR w v:=by
 obtain ⟨h0,h1,⟨m1,r1⟩,⟨m2,r2⟩,⟨m3,r3⟩,⟨m4,r4⟩,m5,r5⟩:=h;exact ⟨h0,h1,r1,r2,r3,r4,r5,m1,m2,m3,m4,m5⟩
theorem x4q:Opens Tryz.prog 28 cLv:=by
 have i:=z8h (P:=Tryz.prog) Tryz.underlying3 (by kernel_rfl);have s:=y7t (P:=Tryz.prog) Tryz.underlying9 (by kernel_rfl);have s1:=z5v (P:=Tryz.prog) Tryz.underlying22 (by kernel_rfl) s (by decide) (oDt (by kernel_rfl));have s2:=z5v (P:=Tryz.prog) Tryz.underlying23 (by kernel_rfl) x4n (by decide) (oDt (by kernel_rfl));have s3:=z5v (P:=Tryz.prog) Tryz.underlying24 (by kernel_rfl) x4p (by decide) (oDt (by kernel_rfl));have s4:=z5v (P:=Tryz.prog) Tryz.underlying25 (by kernel_rfl) x4r (by decide) (oDt (by kernel_rfl));have s5:=z5v (P:=Tryz.prog) Tryz.underlying26 (by kernel_rfl) x4m (by decide) (oDt (by kernel_rfl));refine z5d (c:=cP cS (cP (cL cS) (cP (cL cE) (cP (cL cJ) (cP (cL cSg) (cP (cL cBl) cN)))))) (z6y Tryz.underlying28 (by kernel_rfl) (z08 (by rfl) s (z08 (by rfl) s1 (z08 (by rfl) s2 (z08 (by rfl) s3 (z08 (by rfl) s4 (z08 (by rfl) s5 z2z))))))) rfl ?_;rintro w B cs ⟨a,b,c,d,e,f,_⟩ ⟨_,_,rfl,⟨rfl,ha⟩,_,_,rfl,⟨A1,c1,rfl,m1,r1⟩,_,_,rfl,⟨A2,c2,rfl,m2,r2⟩,_,_,rfl,⟨A3,c3,rfl,m3,r3⟩,_,_,rfl,⟨A4,c4,rfl,m4,r4⟩,_,_,rfl,⟨A5,c5,rfl,m5,r5⟩,rfl⟩ ⟨_,_,_,⟨hj,_⟩,_⟩;exact ⟨⟨⟨a,b,c,d,e,f⟩,A1,A2,A3,A4,A5,c1,c2,c3,c4,c5⟩,⟨rfl,ha,⟨m1,r1⟩,⟨m2,r2⟩,⟨m3,r3⟩,⟨m4,r4⟩,m5,r5⟩,hj⟩
theorem x4o:Opens Tryz.prog 49 j5f:=by
 have b:=z5v (P:=Tryz.prog) Tryz.underlying43 (by kernel_rfl) (j2u Tryz.underlying4 (by kernel_rfl)) (by decide) (oDt (by kernel_rfl));have i:=z5v (P:=Tryz.prog) Tryz.underlying31 (by kernel_rfl) (z8h Tryz.underlying3 (by kernel_rfl)) (by decide) (oDt (by kernel_rfl));refine z5d (c:=cP (cL cB) (cP (cL cI) (cP (cL cB) (cP (cL cB) (cP (cL cB) (cP (cL cI) (cP (cL cI) cN))))))) (z6y Tryz.underlying49 (by kernel_rfl) (z08 (by rfl) b (z08 (by rfl) i (z08 (by rfl) b (z08 (by rfl) b (z08 (by rfl) b (z08 (by rfl) i (z08 (by rfl) i z2z)))))))) rfl ?_;rintro w B cs ⟨a,b,c,d,e,f,g,_⟩ ⟨_,_,rfl,⟨A1,c1,rfl,m1,r1⟩,_,_,rfl,⟨A2,c2,rfl,m2,r2⟩,_,_,rfl,⟨A3,c3,rfl,m3,r3⟩,_,_,rfl,⟨A4,c4,rfl,m4,r4⟩,_,_,rfl,⟨A5,c5,rfl,m5,r5⟩,_,_,rfl,⟨A6,c6,rfl,m6,r6⟩,_,_,rfl,⟨A7,c7,rfl,m7,r7⟩,rfl⟩ _;exact ⟨⟨a,b,c,d,e,f,g⟩,⟨⟨⟨a,b,c,d,e,f,g⟩,A1,A2,A3,A4,A5,A6,A7,c1,c2,c3,c4,c5,c6,c7⟩,rfl,rfl,⟨r1,r2,r3,r4,r5,r6,r7,m1,m2,m3,m4,m5,m6,m7⟩⟩,trivial⟩
theorem x1g:Opens Tryz.prog 29 (cL j5f):=z5v Tryz.underlying29 (by kernel_rfl) x4o (by decide) (oDt (by kernel_rfl))
end Go.Proofs.YtpenlfedkacglaaGreatDoor
namespace Go.Proofs.YtpenlfedkacglaaGreatDoor
open Go.RowKit Go.ChangeShapes Go.WideShapes Go.ChangeAt
section
variable {H:Type} {enc:TypeId × Value→H}
theorem z7q {a:Assume} {C:Checked} {os:Os} {f:FuncId} {fn:Func} {s:ChangeSpec} {conds:List PathCond} {apart fresh handsOn again:Bool} {X:World→Array Value→Prop}
  (hX:∀ (w w':World) (args:Array Value),w.heap=w'.heap→X w args→X w' args)
  (own:ownKnob C.prog.godebug=none) (started:os.Started) (noInit:C.prog.inits.idxOf? f=none) (hfn:C.prog.funcs[f]? = some fn)
  (witness:∃ (w:World) (tape:Tape) (i:Input),w.os=os∧(w.forCall tape i).Shaped C.prog∧i.vars=[]∧Input.okWide C.prog (w.forCall tape i) .any w.heap.size f i∧
   ((s.pre enc C.prog fn conds apart (w.forCall tape i).memory i.args∧X (w.forCall tape i).memory i.args)∧sizedMet enc C.prog fn (OpenSpec.ofChange s) apart (w.forCall tape i).memory i.args)∧a.holds C.prog (lone (Frame.enter C.prog f i.args .normal) [] (w.forCall tape i)))
  (contract:∀ (W:World) (base:Nat) (args:Array Value) (ds gs:List (DataW H)) (before:List MemPlace),
   (∀ (j:Nat) t v,fn.params[j]? = some t→args[j]? = some v→Value.okWide C.prog W .any base t v)→
   DataW.Whole enc C.prog fn.params.toList s.vars apart W args.toList ds gs before→
   (DataW.weightsEach C.prog (fn.params.toList++s.plain.varTypes C.prog) (ds++gs)).all (·≤reachBytes)=true→X W args→W.ShapedOpen C.prog→
   Calls C.prog f args W fun e W'=>∃ v,e=.returned v∧s.post enc C.prog fn apart fresh handsOn again W args v W') :
  ReturnsInHanded a C os f .any (fun w args=>(s.pre enc C.prog fn conds apart w args∧X w args)∧sizedMet enc C.prog fn (OpenSpec.ofChange s) apart w args) (s.post enc C.prog fn apart fresh handsOn again):=by
 refine returnsInHanded_of_calls own started noInit witness ?_;intro w tape i _ hsh _ hok hpre hholds;obtain ⟨_,_,_,fn',hfn',_,_,_,_,hval⟩:=hok;have e:fn' = fn:=sJ (hfn'.symm.trans hfn);subst e;obtain ⟨⟨⟨ds,gs,before,hw,hc⟩,hx⟩,hz⟩:=hpre;have hw':=DataW.Whole.of_heap (w':=w.forCall tape i) (by rfl) hw;refine (contract (w.forCall tape i) w.heap.size i.args ds gs before hval hw' (hz.weights hw) (hX _ _ _ (by rfl) hx) hsh).mono fun e W' ⟨v,he,hp⟩=>?_
 subst he;exact ChangeSpec.post_blind hp
end
theorem y00 {H:Type} {enc:TypeId × Value→H} {P:Program} {w:World} {base:Nat} {sp:Nat→Bool} {held:Bool} {fuel:Nat} {t:TypeId} {fs:Array Field} {k:IntKind} {cs:List Value} {zs:List Int} {p:List MemPlace}
  (ht:P.underlying t=some (.struct fs)) (hfs:∀ (i:Nat) (f:Field),fs.toList[i]? = some f→P.underlying f.type=some (.int k)∧P.cellsOf f.type=1∧f.offset=i) (hct:P.cellsOf t=fs.toList.length)
  (h:DataW.trod enc P w base sp held fuel t cs=some (Lib.tabData k zs,p)):cs=zs.map fun z=>Value.int k z:=by
 cases fuel with
 | zero=>simp[DataW.trod] at h
 | succ fuel=>
  simp only[DataW.trod,ht,hct] at h;split at h
  ·rename_i hl;obtain ⟨xs,hm,hx⟩:=Option.map_eq_some_iff.1 h;have hxs:xs.map (·.1)=zs.map fun z=>(DataW.lit (.int k z):DataW H):=by
    have:=congrArg Prod.fst hx;simpa [Lib.tabData] using this
   have hxl:=Lib.mapM_length hm;have hzl:zs.length=fs.toList.length:=by
    have:=congrArg List.length hxs;simp only[List.length_map] at this;omega
   apply List.ext_getElem?;intro i;by_cases hi:i < fs.toList.length
   ·obtain ⟨b,hb,hf⟩:=Lib.mapM_at hm i _ (gqE hi);obtain ⟨f1,f2,f3⟩:=hfs i _ (gqE hi);rw[f2,f3] at hf;obtain ⟨z,hc,rfl,_⟩:=DataW.trod_int f1 hf;have h1:cs[i]? = some (.int k z):=by
     have:=congrArg (·[0]?) hc;simpa [List.getElem?_take,List.getElem?_drop] using this
    have h2:(xs.map (·.1))[i]? = some (DataW.lit (.int k z):DataW H):=by simp[hb]
    rw[hxs] at h2;simp only[List.getElem?_map,Option.map_eq_some_iff,DataW.lit.injEq,Lit.int.injEq,true_and] at h2;obtain ⟨z',hz',rfl⟩:=h2;simp[h1,hz']
   ·rw[List.getElem?_eq_none (by omega),List.getElem?_eq_none (by rw[List.length_map];omega)]
  ·cases h
theorem y3f {H:Type} {enc:TypeId × Value→H} {P:Program} {w:World} {base:Nat} {sp:Nat→Bool} {held:Bool} {fuel:Nat} {t e:TypeId} {n m:Nat} {k:IntKind} {cs:List Value} {rows:List (List Int)} {p:List MemPlace}
  (ht:P.underlying t=some (.array n e)) (hce:P.cellsOf e=m) (hrow:∀ (fuel:Nat) (ds:List Value) (zs:List Int) (p:List MemPlace),DataW.trod enc P w base sp held fuel e ds=some (Lib.tabData k zs,p)→ds=zs.map fun z=>Value.int k z)
  (h:DataW.trod enc P w base sp held fuel t cs=some (.agg (rows.map (Lib.tabData k)),p)) (i:Nat) (r:List Int) (hr:rows[i]? = some r):(cs.drop (i*m)).take m=r.map fun z=>Value.int k z:=by
 cases fuel with
 | zero=>simp[DataW.trod] at h
 | succ fuel=>
  simp only[DataW.trod,ht,hce] at h;split at h
  ·obtain ⟨xs,hm,hx⟩:=Option.map_eq_some_iff.1 h;have hxs:xs.map (·.1)=rows.map (Lib.tabData (H:=H) k):=by
    have:=congrArg Prod.fst hx;simpa using this
   have hxl:xs.length=n:=by simpa using Lib.mapM_length hm
   have hil:i < rows.length:=(List.getElem?_eq_some_iff.1 hr).1;have hin:i < n:=by
    have:=congrArg List.length hxs;simp only[List.length_map] at this;omega
   obtain ⟨b,hb,hf⟩:=Lib.mapM_at hm i i (by simp[hin]);have h2:(xs.map (·.1))[i]? = some b.1:=by simp[hb]
   rw[hxs,List.getElem?_map,hr] at h2;have h3:b.1=Lib.tabData k r:=(sJ h2).symm;obtain ⟨b1,b2⟩:=b;subst h3;exact hrow fuel _ _ _ hf
  ·cases h
def j6s:List (List Int):=[[1,0,1,0],[1,1,0,0],[2,0,1,1],[2,0,2,2],[2,1,0,1],[2,2,0,2],[3,0,1,0],[3,1,0,0],[3,2,3,0],[3,3,2,0]]
theorem x4x:∀ j < 40,(j6s[j / 4]?.bind fun r=>r[j % 4]?)=y7u[j]?:=by decide
def y1m:List (String × DataW Unit):=Rows.topLocksRow.laid
theorem x7z:y1m=[("math/bits.deBruijn32tab",Rows.laid_math_bits_deBruijn32tab),("math/bits.deBruijn64tab",Rows.laid_math_bits_deBruijn64tab),("internal/strconv.uint64pow10",Rows.laid_internal_strconv_uint64pow10),("signalling/rail.sides",Rows.laid_signalling_rail_sides),("signalling/rail.passages",Rows.laid_signalling_rail_passages)]:=rfl
theorem y61:∀ w,laidMetH Tryz.prog y1m w=laidMet Tryz.prog y1m w:=fun _=>MakeChecks.laidMetH_plain _ _ _ (by kernel_rfl)
theorem j7l:Rows.laid_internal_strconv_uint64pow10 (H:=Unit)=Lib.tabData .u64 Lib.pow10Tab:=by kernel_rfl
theorem x9r:Rows.laid_signalling_rail_sides (H:=Unit)=Lib.tabData .i64 [0,2,3,4]:=by kernel_rfl
theorem j4b:Rows.laid_signalling_rail_passages (H:=Unit)=.agg (j6s.map (Lib.tabData .i64)):=by kernel_rfl
theorem x1j {i:Nat} {f:Field} {fs:Array Field} (hu:Tryz.prog.underlying 188=some (.struct fs)) (hf:fs.toList[i]? = some f) (hall:((fs.toList.zipIdx).all fun x=>decide (x.1.type=3) && decide (x.1.offset=x.2))=true):Tryz.prog.underlying f.type=some (.int .i64)∧Tryz.prog.cellsOf f.type=1∧f.offset=i:=by
 have hm:(f,i)∈fs.toList.zipIdx:=by
  rw[List.mem_iff_getElem?];exact ⟨i,by rw[List.getElem?_zipIdx,hf];simp⟩
 have:=List.all_eq_true.1 hall _ hm;simp only[uT,dET] at this;rw[this.1];exact ⟨Tryz.underlying3,by kernel_rfl,this.2⟩
theorem j5r {W:World} (hL:laidMetH Tryz.prog y1m W) (hsh:W.ShapedOpen Tryz.prog):y6n W:=by
 rw[y61,x7z] at hL;have h3:=hL.tail.tail;rw[j7l] at h3;have hT:=Lib.tabIs_of_head (g:=2) (t:=243) (e:=206) (n:=20) (by kernel_rfl) (by kernel_rfl) Tryz.underlying243 Tryz.underlying206 (by kernel_rfl) (by kernel_rfl) h3;have h4:=h3.tail;rw[x9r] at h4;have hS:=Lib.tabIs_of_head (g:=1) (t:=190) (e:=3) (n:=4) (by kernel_rfl) (by kernel_rfl) Tryz.underlying190 Tryz.underlying3 (by kernel_rfl) (by kernel_rfl) h4;have h5:=h4.tail;rw[j4b] at h5;refine ⟨⟨hT,fun j x hx=>?_⟩,hS⟩;obtain ⟨ps,⟨g',t',cs,fuel,p,q,hg',ht',hvar,hd,_,_⟩,_⟩:=h5;obtain rfl:=sJ ((show Tryz.prog.globalNamed "signalling/rail.passages" = some 0 by kernel_rfl).symm.trans hg');obtain rfl:=sJ ((show (Tryz.prog.globals[0]?).map (·.type)=some 189 by kernel_rfl).symm.trans ht');have hj:j < 40:=(List.getElem?_eq_some_iff.1 hx).1;have hrw:=x4x j hj;rw[hx] at hrw;obtain ⟨r,hr,hrj⟩:=Option.bind_eq_some_iff.1 hrw;have hc:=y3f (n:=10) (m:=4) Tryz.underlying189 (by kernel_rfl) (fun fuel ds zs p h=>y00 Tryz.underlying188 (fun i f hf=>x1j Tryz.underlying188 hf (by decide)) (by kernel_rfl) h) hd (j / 4) r hr;have:=World.var?_cell (show Tryz.prog.globalNamed "signalling/rail.passages" = some 0 by kernel_rfl) hvar j;rw[this];have h4:=congrArg (·[j % 4]?) hc;simp only[List.getElem?_take,List.getElem?_drop,List.getElem?_map,hrj,Option.map_some] at h4;rw[if_pos (Nat.mod_lt _ (by decide)),show j / 4*4+j % 4=j by omega] at h4;simpa using h4
theorem knob:ownKnob Tryz.prog.godebug=none:=by kernel_rfl
theorem x1q (os:Os) (args:Array Value):((World.laidAll Tryz.prog os y1m).forCall (fun _ _=>0) ⟨#[],args,[]⟩).Shaped Tryz.prog:=World.shaped_of_ZipB (by kernel_rfl) (by kernel_rfl)
theorem j3n (os:Os) (args:Array Value):laidMetH Tryz.prog y1m ((World.laidAll Tryz.prog os y1m).forCall (fun _ _=>0) ⟨#[],args,[]⟩).memory:=by
 rw[y61];exact laidMet_laidAll _ (by kernel_rfl) (by kernel_rfl)
end Go.Proofs.YtpenlfedkacglaaGreatDoor
