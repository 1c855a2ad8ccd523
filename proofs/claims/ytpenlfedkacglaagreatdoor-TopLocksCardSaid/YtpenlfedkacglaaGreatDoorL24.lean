import Derived.Test.YtpenlfedkacglaaGreatDoorL23
set_option maxRecDepth 100000
set_option maxHeartbeats 40000000
set_option linter.all false
namespace Go.Proofs.YtpenlfedkacglaaGreatDoor
open Go.RowKit
attribute [local go_sem] z05 z07 z01 z02
attribute [-go_sem] run_equalIn_agg
attribute [-go_sem] loadCellsFrom
theorem j4h {x:RSt} {n:Nat} (h:z0z x n=true) (hs:x.st=3):(∃ k:Nat,x.rel=k∧k < n)∧0≤x.tim∧x.tim < 4:=by
 have:=rf3 h hs;exact ⟨⟨x.rel.toNat,by omega,by omega⟩,by omega,by omega⟩
theorem j1q {x:RSt} {n:Nat} (h:z0z x n=true) (hs:x.st=4):(∃ k:Nat,x.rel=k∧k < n)∧0≤x.tim∧x.tim < 12:=by
 have:=rf4 h hs;exact ⟨⟨x.rel.toNat,by omega,by omega⟩,by omega,by omega⟩
theorem j6o {t:Tab} {s:Itr} {i:Inp} {r:Nat} {x:RSt} {q:Rou} (hf:y1h t s=true) (hx:z1d s r=x) (hq:z0r t r=q):z7c t s i r =
 if x.st=1 then (if decide ((r:Int)∈i.cans)=true then zS else if y64 t i q=false then x else y2c t i q (i.cla.getD r true) (decide ((r:Int)∈i.cans)))
 else if x.st=2 then y2c t i q (i.cla.getD r true) (decide ((r:Int)∈i.cans))
 else if x.st=3 then z9t i q x (i.cla.getD r true) (i.pas.getD r false) (decide ((r:Int)∈i.cans)) ((z1p q x).all fun n=>!z2t i.occ n)
 else if x.st=4 then x0q i q x (i.cla.getD r true) ((z1p q x).all fun n=>!z2t i.occ n)
 else zS:=by
 unfold z7c;rw[hf,hx,hq];rfl
theorem x8r (v:z1w) (u:z1r) (i:z3n) (k:Nat) (w:World) (hr:TvR w v) (hs:y1j w u) (hi:y1d w i) (hS:y4p v.t) (hF:Fits v.t u.i) (hlt:k < v.t.rts.length):Calls Tryz.prog 26 #[.agg (z0t v),.agg (z1v u),.agg (z3t i),.int .i64 (k:Int)] w fun e w'=>e=.returned (rsV (z7c v.t u.i i.i k))∧Below w.heap.size w w':=by
 have hltu:k < u.i.rts.length:=by rw[hF.l1];exact hlt
 have hki:(k:Int) < (v.t.rts.length:Int):=by omega
 have hki0:¬(k:Int) < 0:=by omega
 have hki2:¬(v.t.rts.length:Int)≤(k:Int):=by omega
 have hkiu:(k:Int) < (u.i.rts.length:Int):=by omega
 obtain ⟨W2,hW2⟩:∃ W,W=(((w.alloc (.cells (z0t v) 33)).alloc (.cells (z1v u) 41)).alloc (.cells (z3t i) 49)).alloc (.cells #[.int .i64 0,.int .i64 0,.int .i64 0] 58):=⟨_,rfl⟩
 have hb2:Below w.heap.size w W2:=by rw[hW2];exact (((bQ.alloc nL _).alloc (by simp) _).alloc (by simp;omega) _).alloc (by simp;omega) _
 have hx0:Blk W2 w.heap.size 33 (z0t v):=by rw[hW2];exact (((Blk.new _ _ _ _ rfl).alloc _).alloc _).alloc _
 have hx1:Blk W2 (w.heap.size+1) 41 (z1v u):=by rw[hW2];exact ((Blk.new _ _ _ _ (by simp)).alloc _).alloc _
 have hx2:Blk W2 (w.heap.size+2) 49 (z3t i):=by rw[hW2];exact (Blk.new _ _ _ _ (by simp)).alloc _
 have hx3:Blk W2 (w.heap.size+3) 58 #[.int .i64 0,.int .i64 0,.int .i64 0]:=by rw[hW2];exact Blk.new _ _ _ _ (by simp)
 have HFT:=hE (x4y v u W2 (hr.now hb2) (hs.now hb2) hS.ok hF);have hm1:=hr.n1.1;have hn1:=hs.n1.1;have hn4:=hi.n4.1;have hn5:=hi.n5.1;have hn7:=hi.n7.1;have hn4':=hi.n4.1;have hn5':=hi.n5.1;unfold maxLen at hm1 hn1 hn4 hn5;have hsec:=hS _ (uE hlt);have hfit:=hF.st k hltu hlt;have hpos:=z3x hF.chk hlt;have hck:=hF.chk;have hre1:=z2u hlt;have hre2:=z5g hltu;have hft:=y06 hF;have ld0:=z0c hx0 5 rfl;have ld1:=z0c hx1 2 rfl;rw[hW2] at ld0 ld1;go_enter Tryz.func26,Tryz.ntmps26
 go_wp2_with fail;rw[←hW2];clear hW2 ld0 ld1;refine HFT.out.mono ?_;rintro e w3 ⟨rfl,hq3⟩;have hb3:=z00 hb2 hb2.size hq3;have bxt:=hx0.now hq3;have bxi:=hx1.now hq3;have bxn:=hx2.now hq3;have bxr:=hx3.now hq3;clear hx0 hx1 hx2 hx3 hb2 HFT hq3;obtain ⟨bS,offS,hAS,lbS,hoS,z0,z1,z2⟩:=(hs.now hb3).r1.elX hltu;obtain ⟨b2,off2,rv,hA2,lb2,hre,hrv,q0,q1,q2,q3,q4,q5,q6,q7,q8,q9,q10,q11,q12,q13⟩:=(hr.now hb3).r1.elR hlt;have hmem:rv.r∈v.t.rts:=by rw[hre];exact uE hlt
 rw[←hre] at hsec hfit hpos hre1;rw[←hre2] at hfit z0 z1 z2;have HEM:=hE fun W' (h:Below w3.heap.size w3 W')=>y72 v u i k W' (hr.now (z00 hb3 hb3.size h)) (hs.now (z00 hb3 hb3.size h)) (hi.now (z00 hb3 hb3.size h)) hS hF hlt
 have HCA:=hE fun W' (h:Below w3.heap.size w3 W')=>z4z i.i.cans (k:Int) i.A7 i.c7 W' ((hi.now hb3).now h).r7 hn7
 obtain ⟨x,hx⟩:∃ x,z1d u.i k=x:=⟨_,rfl⟩
 rw[hx] at hfit z0 z1 z2;have HNX:=hE (j6o (i:=i.i) hft hx hre1);rw[hre1,hx] at HEM;clear hre hre1 hre2 hx hft;obtain ⟨cl,hcl⟩:∃ c,i.i.cla.getD k true=c:=⟨_,rfl⟩
 obtain ⟨pa,hpa0⟩:∃ c,i.i.pas.getD k false=c:=⟨_,rfl⟩
 obtain ⟨ca,hca⟩:∃ c,decide ((k:Int)∈i.i.cans)=c:=⟨_,rfl⟩
 obtain ⟨em,hem⟩:∃ c,((z1p rv.r x).all fun n=>!z2t i.i.occ n)=c:=⟨_,rfl⟩
 rw[hcl,hpa0,hca,hem] at HNX;rw[hca] at HCA;rw[hem] at HEM;clear hca hem;have HNXE:=hE (show ∃ y,z7c v.t u.i i.i k=y from ⟨_,rfl⟩);have HA2:=hE hA2;have HAS:=hE hAS;have HCL:=hE hcl;have HPA:=hE hpa0;clear hA2 hAS hcl hpa0 HNXE;go_wp2_with fail
 rename_i Q' K hK;have TAIL:∀ (g:Nat) (w5:World) (u0 u1 u2 u7 u10 u11 u12 u13 u14 u15 u16 u17 u18 u19 u20 u21 u22 u23 u24 u25 u26 u27 u28 u29 u30 u31 u32 u33 u34 u35 u36 u37 u38 u39 u40 u41 u42 u43 u44 u45 u46 u47 u48 u49 u50 u51 u52 u53 u54 u55 u56 u57 u58 u59 u60 u61 u62 u63 u64 u65 u66 u67 u68 u69 u70 u71 u72 u73 u74 u75 u76 u77 u78 u79 u80 u81 u82 u83 u84 u85 u86 u87 u88 u89 u90 u91 u92 u93 u94 u95 u96 u97 u98 u99 u100:Value),Blk w5 g 125 #[.slice v.A1 v.t.rts.length v.c1,.slice v.A2 v.t.pts.length v.c2,.slice v.A3 v.t.homes.length v.c3,.int .i64 v.t.nsec,.int .i64 v.t.nsig,.slice i.A1 i.i.occ.length i.c1,.slice i.A2 i.i.det.length i.c2,.slice i.A3 i.i.clo.length i.c3,.slice i.A4 i.i.cla.length i.c4,.slice i.A5 i.i.pas.length i.c5,.slice i.A6 i.i.calls.length i.c6,.slice i.A7 i.i.cans.length i.c7,.string (bs rv.r.name),.int .i64 rv.r.ent,.int .i64 rv.r.ext,.slice rv.A1 rv.r.path.length rv.c1,.slice rv.A2 rv.r.pts.length rv.c2,.slice rv.A3 rv.r.secs.length rv.c3,.int .i64 rv.r.app,.int .i64 rv.r.len,.slice rv.A4 rv.r.over.length rv.c4,.slice rv.A5 rv.r.opts.length rv.c5,.slice rv.A6 rv.r.osecs.length rv.c6,.slice rv.A7 rv.r.flk.length rv.c7,.slice rv.A8 rv.r.grd.length rv.c8,.slice rv.A9 rv.r.gap.length rv.c9,.int .i64 x.st,.int .i64 x.rel,.int .i64 x.tim,.bool cl,.bool pa,.bool ca,.bool em]→Below w3.heap.size w3 w5→K { tmps:=#[u0,u1,u2,.int .i64 (k:Int),.pointer (some ⟨w.heap.size,0,none⟩),.pointer (some ⟨w.heap.size+1,0,none⟩),.pointer (some ⟨w.heap.size+1+1,0,none⟩),u7,.pointer (some ⟨w.heap.size+1+1+1,0,none⟩),.pointer (some ⟨g,0,none⟩),u10,u11,u12,u13,u14,u15,u16,u17,u18,u19,u20,u21,u22,u23,u24,u25,u26,u27,u28,u29,u30,u31,u32,u33,u34,u35,u36,u37,u38,u39,u40,u41,u42,u43,u44,u45,u46,u47,u48,u49,u50,u51,u52,u53,u54,u55,u56,u57,u58,u59,u60,u61,u62,u63,u64,u65,u66,u67,u68,u69,u70,u71,u72,u73,u74,u75,u76,u77,u78,u79,u80,u81,u82,u83,u84,u85,u86,u87,u88,u89,u90,u91,u92,u93,u94,u95,u96,u97,u98,u99,u100],defers:=[] } w5:=by
  intro g w5 u0 u1 u2 u7 u10 u11 u12 u13 u14 u15 u16 u17 u18 u19 u20 u21 u22 u23 u24 u25 u26 u27 u28 u29 u30 u31 u32 u33 u34 u35 u36 u37 u38 u39 u40 u41 u42 u43 u44 u45 u46 u47 u48 u49 u50 u51 u52 u53 u54 u55 u56 u57 u58 u59 u60 u61 u62 u63 u64 u65 u66 u67 u68 u69 u70 u71 u72 u73 u74 u75 u76 u77 u78 u79 u80 u81 u82 u83 u84 u85 u86 u87 u88 u89 u90 u91 u92 u93 u94 u95 u96 u97 u98 u99 u100 hv hq5;refine hK _ _ ?_;have hb5:=z00 hb3 hb3.size hq5;have hz5:=bxr.now hq5;have hr5:=hr.now hb5;have hi5:=hi.now hb5;have hrv5:=(hrv.now hq5)
  have hst:=j3i hfit;rcases hst with hst | hst | hst | hst | hst
  ·have t1:(x.st==1)=false:=by rw[hst];rfl
   have t2:(x.st==2)=false:=by rw[hst];rfl
   have t3:(x.st==3)=false:=by rw[hst];rfl
   have t4:(x.st==4)=false:=by rw[hst];rfl
   have HSX:=hE hst;have HX:Hid (zS=z7c v.t u.i i.i k):=hE (by rw[HNX.out];simp[HSX.out]);clear hst;have y26:=hv.cell 26;have yl:=hv.lt;simp only[gqA,gqZ,gqS] at y26;have r0:=hz5.cell 0;have r1:=hz5.cell 1;have r2:=hz5.cell 2;have rf:=hz5.free;have rl:=hz5.lt;simp only[gqA,gqZ,gqS] at r0 r1 r2;have HFF:=hE (aIq (((hz5.set 0 (.int .i64 0)).set 1 (.int .i64 0)).set 2 (.int .i64 0)) (((hb5.setCell (p:=⟨w.heap.size+3,0,none⟩) (by simp) (.int .i64 0)).setCell (p:=⟨w.heap.size+3,1,none⟩) (by simp) (.int .i64 0)).setCell (p:=⟨w.heap.size+3,2,none⟩) (by simp) (.int .i64 0)));go_wp2_with fail
   obtain ⟨p,hbf⟩:=HFF.out;have p0:=p.cell 0;have p1:=p.cell 1;have p2:=p.cell 2;have pl:=p.lt;simp only[gqA,gqZ,gqS,lsz,lss,lsa] at p0 p1 p2;exact bodyPost_ret (v:=.agg #[.int .i64 0,.int .i64 0,.int .i64 0]) (by simp[results,Tryz.results26,go_sem,loadCellsFrom,p0,p1,p2,pl]) rfl ⟨by rw[←HX.out];rfl,hbf⟩
  ·have t1:(x.st==1)=true:=by rw[hst];rfl
   have t2:(x.st==2)=false:=by rw[hst];rfl
   have t3:(x.st==3)=false:=by rw[hst];rfl
   have t4:(x.st==4)=false:=by rw[hst];rfl
   have HSX:=hE hst;clear hst
   cases ca with
   | true=>
    have HX:Hid (zS=z7c v.t u.i i.i k):=hE (by rw[HNX.out];simp[HSX.out]);have y26:=hv.cell 26;have y31:=hv.cell 31;have yl:=hv.lt;simp only[gqA,gqZ,gqS] at y26 y31;have r0:=hz5.cell 0;have r1:=hz5.cell 1;have r2:=hz5.cell 2;have rf:=hz5.free;have rl:=hz5.lt;simp only[gqA,gqZ,gqS] at r0 r1 r2;have HFF:=hE (aIq (((hz5.set 0 (.int .i64 0)).set 1 (.int .i64 0)).set 2 (.int .i64 0)) (((hb5.setCell (p:=⟨w.heap.size+3,0,none⟩) (by simp) (.int .i64 0)).setCell (p:=⟨w.heap.size+3,1,none⟩) (by simp) (.int .i64 0)).setCell (p:=⟨w.heap.size+3,2,none⟩) (by simp) (.int .i64 0)));go_wp2_with fail
    obtain ⟨p,hbf⟩:=HFF.out;have p0:=p.cell 0;have p1:=p.cell 1;have p2:=p.cell 2;have pl:=p.lt;simp only[gqA,gqZ,gqS,lsz,lss,lsa] at p0 p1 p2
    exact bodyPost_ret (v:=.agg #[.int .i64 0,.int .i64 0,.int .i64 0]) (by simp[results,Tryz.results26,go_sem,loadCellsFrom,p0,p1,p2,pl]) rfl ⟨by rw[←HX.out];rfl,hbf⟩
   | false=>
    have y26:=hv.cell 26;have y31:=hv.cell 31;have yl:=hv.lt;simp only[gqA,gqZ,gqS] at y26 y31;have ldt:=z0c (bxt.now hq5) 5 rfl;have ldn:=z0c (bxn.now hq5) 7 rfl;have ldr:=z2h hv 12 14 [.string (bs rv.r.name),.int .i64 rv.r.ent,.int .i64 rv.r.ext,.slice rv.A1 rv.r.path.length rv.c1,.slice rv.A2 rv.r.pts.length rv.c2,.slice rv.A3 rv.r.secs.length rv.c3,.int .i64 rv.r.app,.int .i64 rv.r.len,.slice rv.A4 rv.r.over.length rv.c4,.slice rv.A5 rv.r.opts.length rv.c5,.slice rv.A6 rv.r.osecs.length rv.c6,.slice rv.A7 rv.r.flk.length rv.c7,.slice rv.A8 rv.r.grd.length rv.c8,.slice rv.A9 rv.r.gap.length rv.c9] rfl rfl;simp only[List.toArray] at ldr;go_wp2_with fail
    refine (y2t v i rv w5 hr5 hi5 hrv5 hck hmem hsec).mono ?_;rintro e w6 ⟨rfl,hq6⟩;have hv6:=hv.now hq6;have hb6:=z00 hb5 hb5.size hq6;have hz6:=hz5.now hq6;have hq36:=z00 hq5 hq5.size hq6;clear y26 y31 yl ldt ldn ldr;obtain ⟨pb,hpb⟩:∃ c,y64 v.t i.i rv.r=c:=⟨_,rfl⟩
    rw[hpb] at HNX ⊢
    cases pb with
    | false=>
     have HX:Hid (x=z7c v.t u.i i.i k):=hE (by rw[HNX.out];simp[HSX.out]);clear hpb;clear hv;have hv:=hv6;have y26:=hv.cell 26;have yl:=hv.lt;simp only[gqA,gqZ,gqS] at y26;have ldo:=z2h hv 26 3 [.int .i64 x.st,.int .i64 x.rel,.int .i64 x.tim] rfl rfl;have r0:=hz6.cell 0;have r1:=hz6.cell 1;have r2:=hz6.cell 2;have rf:=hz6.free;have rl:=hz6.lt;simp only[gqA,gqZ,gqS] at r0 r1 r2;have HFF:=hE (aIq (((hz6.set 0 (.int .i64 x.st)).set 1 (.int .i64 x.rel)).set 2 (.int .i64 x.tim)) (((hb6.setCell (p:=⟨w.heap.size+3,0,none⟩) (by simp) (.int .i64 x.st)).setCell (p:=⟨w.heap.size+3,1,none⟩) (by simp) (.int .i64 x.rel)).setCell (p:=⟨w.heap.size+3,2,none⟩) (by simp) (.int .i64 x.tim)));go_wp2_with fail
     obtain ⟨p,hbf⟩:=HFF.out;have p0:=p.cell 0;have p1:=p.cell 1;have p2:=p.cell 2;have pl:=p.lt;simp only[gqA,gqZ,gqS,lsz,lss,lsa] at p0 p1 p2
     exact bodyPost_ret (v:=.agg #[.int .i64 x.st,.int .i64 x.rel,.int .i64 x.tim]) (by simp[results,Tryz.results26,go_sem,loadCellsFrom,p0,p1,p2,pl]) rfl ⟨by rw[←HX.out];rfl,hbf⟩
    | true=>
     clear hv;have hv:=hv6;have y26:=hv.cell 26;have yl:=hv.lt;simp only[gqA,gqZ,gqS] at y26;have ld:=z0c hv 33 rfl;go_wp2_with fail
     refine (y2y v i rv x cl pa false em w6 (hr5.now hq6) (hi5.now hq6) (hrv5.now hq6) hck hmem hsec).mono ?_;rintro e w8 ⟨rfl,hq8⟩;have hz8:=hz6.now hq8;have hb8:=z00 hb6 hb6.size hq8;obtain ⟨y,hy⟩:∃ y,y2c v.t i.i rv.r cl false=y:=⟨_,rfl⟩
     rw[hy];have HX:Hid (y=z7c v.t u.i i.i k):=hE (by rw[HNX.out,←hy];simp[HSX.out]);unfold rsV;clear hy y26 yl ld;have r0:=hz8.cell 0;have r1:=hz8.cell 1;have r2:=hz8.cell 2;have rf:=hz8.free;have rl:=hz8.lt;simp only[gqA,gqZ,gqS] at r0 r1 r2;have HFF:=hE (aIq (((hz8.set 0 (.int .i64 y.st)).set 1 (.int .i64 y.rel)).set 2 (.int .i64 y.tim)) (((hb8.setCell (p:=⟨w.heap.size+3,0,none⟩) (by simp) (.int .i64 y.st)).setCell (p:=⟨w.heap.size+3,1,none⟩) (by simp) (.int .i64 y.rel)).setCell (p:=⟨w.heap.size+3,2,none⟩) (by simp) (.int .i64 y.tim)));go_wp2_with fail
     obtain ⟨p,hbf⟩:=HFF.out;have p0:=p.cell 0;have p1:=p.cell 1;have p2:=p.cell 2;have pl:=p.lt;simp only[gqA,gqZ,gqS,lsz,lss,lsa] at p0 p1 p2;exact bodyPost_ret (v:=.agg #[.int .i64 y.st,.int .i64 y.rel,.int .i64 y.tim]) (by simp[results,Tryz.results26,go_sem,loadCellsFrom,p0,p1,p2,pl]) rfl ⟨by rw[←HX.out];rfl,hbf⟩
  ·have t1:(x.st==1)=false:=by rw[hst];rfl
   have t2:(x.st==2)=true:=by rw[hst];rfl
   have t3:(x.st==3)=false:=by rw[hst];rfl
   have t4:(x.st==4)=false:=by rw[hst];rfl
   have HSX:=hE hst;clear hst;have y26:=hv.cell 26;have yl:=hv.lt;simp only[gqA,gqZ,gqS] at y26;have ld:=z0c hv 33 rfl;go_wp2_with fail
   refine (y2y v i rv x cl pa ca em w5 hr5 hi5 hrv5 hck hmem hsec).mono ?_;rintro e w8 ⟨rfl,hq8⟩;have hz8:=hz5.now hq8;have hb8:=z00 hb5 hb5.size hq8;obtain ⟨y,hy⟩:∃ y,y2c v.t i.i rv.r cl ca=y:=⟨_,rfl⟩
   rw[hy];have HX:Hid (y=z7c v.t u.i i.i k):=hE (by rw[HNX.out,←hy];simp[HSX.out]);unfold rsV;clear hy y26 yl ld;have r0:=hz8.cell 0;have r1:=hz8.cell 1;have r2:=hz8.cell 2;have rf:=hz8.free;have rl:=hz8.lt;simp only[gqA,gqZ,gqS] at r0 r1 r2;have HFF:=hE (aIq (((hz8.set 0 (.int .i64 y.st)).set 1 (.int .i64 y.rel)).set 2 (.int .i64 y.tim)) (((hb8.setCell (p:=⟨w.heap.size+3,0,none⟩) (by simp) (.int .i64 y.st)).setCell (p:=⟨w.heap.size+3,1,none⟩) (by simp) (.int .i64 y.rel)).setCell (p:=⟨w.heap.size+3,2,none⟩) (by simp) (.int .i64 y.tim)));go_wp2_with fail
   obtain ⟨p,hbf⟩:=HFF.out;have p0:=p.cell 0;have p1:=p.cell 1;have p2:=p.cell 2;have pl:=p.lt;simp only[gqA,gqZ,gqS,lsz,lss,lsa] at p0 p1 p2;exact bodyPost_ret (v:=.agg #[.int .i64 y.st,.int .i64 y.rel,.int .i64 y.tim]) (by simp[results,Tryz.results26,go_sem,loadCellsFrom,p0,p1,p2,pl]) rfl ⟨by rw[←HX.out];rfl,hbf⟩
  ·have t1:(x.st==1)=false:=by rw[hst];rfl
   have t2:(x.st==2)=false:=by rw[hst];rfl
   have t3:(x.st==3)=true:=by rw[hst];rfl
   have t4:(x.st==4)=false:=by rw[hst];rfl
   have HSX:=hE hst;obtain ⟨hu1,hu2⟩:=j4h hfit hst;clear hst;have y26:=hv.cell 26;have yl:=hv.lt;simp only[gqA,gqZ,gqS] at y26;have ld:=z0c hv 33 rfl;go_wp2_with fail
   refine (x5z v i rv x cl pa ca em w5 hr5 hi5 hrv5 hu1 hu2 hsec.n3).mono ?_;rintro e w8 ⟨rfl,hq8⟩;have hz8:=hz5.now hq8;have hb8:=z00 hb5 hb5.size hq8;obtain ⟨y,hy⟩:∃ y,z9t i.i rv.r x cl pa ca em=y:=⟨_,rfl⟩
   rw[hy];have HX:Hid (y=z7c v.t u.i i.i k):=hE (by rw[HNX.out,←hy];simp[HSX.out]);unfold rsV;clear hy y26 yl ld;have r0:=hz8.cell 0;have r1:=hz8.cell 1;have r2:=hz8.cell 2;have rf:=hz8.free;have rl:=hz8.lt;simp only[gqA,gqZ,gqS] at r0 r1 r2;have HFF:=hE (aIq (((hz8.set 0 (.int .i64 y.st)).set 1 (.int .i64 y.rel)).set 2 (.int .i64 y.tim)) (((hb8.setCell (p:=⟨w.heap.size+3,0,none⟩) (by simp) (.int .i64 y.st)).setCell (p:=⟨w.heap.size+3,1,none⟩) (by simp) (.int .i64 y.rel)).setCell (p:=⟨w.heap.size+3,2,none⟩) (by simp) (.int .i64 y.tim)));go_wp2_with fail
   obtain ⟨p,hbf⟩:=HFF.out;have p0:=p.cell 0;have p1:=p.cell 1;have p2:=p.cell 2;have pl:=p.lt;simp only[gqA,gqZ,gqS,lsz,lss,lsa] at p0 p1 p2;exact bodyPost_ret (v:=.agg #[.int .i64 y.st,.int .i64 y.rel,.int .i64 y.tim]) (by simp[results,Tryz.results26,go_sem,loadCellsFrom,p0,p1,p2,pl]) rfl ⟨by rw[←HX.out];rfl,hbf⟩
  ·have t1:(x.st==1)=false:=by rw[hst];rfl
   have t2:(x.st==2)=false:=by rw[hst];rfl
   have t3:(x.st==3)=false:=by rw[hst];rfl
   have t4:(x.st==4)=true:=by rw[hst];rfl
   have HSX:=hE hst;obtain ⟨hu1,hu2⟩:=j1q hfit hst;clear hst;have y26:=hv.cell 26;have yl:=hv.lt;simp only[gqA,gqZ,gqS] at y26;have ld:=z0c hv 33 rfl;go_wp2_with fail
   refine (x5y v i rv x cl pa ca em w5 hr5 hi5 hrv5 hu1 hu2).mono ?_;rintro e w8 ⟨rfl,hq8⟩;have hz8:=hz5.now hq8;have hb8:=z00 hb5 hb5.size hq8;obtain ⟨y,hy⟩:∃ y,x0q i.i rv.r x cl em=y:=⟨_,rfl⟩
   rw[hy];have HX:Hid (y=z7c v.t u.i i.i k):=hE (by rw[HNX.out,←hy];simp[HSX.out]);unfold rsV;clear hy y26 yl ld;have r0:=hz8.cell 0;have r1:=hz8.cell 1;have r2:=hz8.cell 2;have rf:=hz8.free;have rl:=hz8.lt;simp only[gqA,gqZ,gqS] at r0 r1 r2;have HFF:=hE (aIq (((hz8.set 0 (.int .i64 y.st)).set 1 (.int .i64 y.rel)).set 2 (.int .i64 y.tim)) (((hb8.setCell (p:=⟨w.heap.size+3,0,none⟩) (by simp) (.int .i64 y.st)).setCell (p:=⟨w.heap.size+3,1,none⟩) (by simp) (.int .i64 y.rel)).setCell (p:=⟨w.heap.size+3,2,none⟩) (by simp) (.int .i64 y.tim)));go_wp2_with fail
   obtain ⟨p,hbf⟩:=HFF.out;have p0:=p.cell 0;have p1:=p.cell 1;have p2:=p.cell 2;have pl:=p.lt;simp only[gqA,gqZ,gqS,lsz,lss,lsa] at p0 p1 p2;exact bodyPost_ret (v:=.agg #[.int .i64 y.st,.int .i64 y.rel,.int .i64 y.tim]) (by simp[results,Tryz.results26,go_sem,loadCellsFrom,p0,p1,p2,pl]) rfl ⟨by rw[←HX.out];rfl,hbf⟩
 obtain ⟨bC,oC,ha3⟩:∃ bC oC:Nat,k < i.i.cla.length→i.A4=some ⟨bC,oC,none⟩∧bC < w3.heap.size∧w3.cell? ⟨bC,oC+k,none⟩=some (.bool cl):=by
  by_cases hcla:k < i.i.cla.length
  ·obtain ⟨bC,offC,hAC,lbC,cc⟩:=(hi.now hb3).r4.x79 hcla;have hclv:i.i.cla[k]=cl:=by rw[←HCL.out];simp[List.getD,hcla]
   rw[hclv] at cc;exact ⟨bC,offC,fun _=>⟨hAC,lbC,cc⟩⟩
  ·exact ⟨0,0,fun h=>absurd h hcla⟩
 obtain ⟨bP,oP,ha4⟩:∃ bP oP:Nat,k < i.i.pas.length→i.A5=some ⟨bP,oP,none⟩∧bP < w3.heap.size∧w3.cell? ⟨bP,oP+k,none⟩=some (.bool pa):=by
  by_cases hpas:k < i.i.pas.length
  ·obtain ⟨bP,offP,hAP,lbP,cp⟩:=(hi.now hb3).r5.x79 hpas;have hpav:i.i.pas[k]=pa:=by rw[←HPA.out];simp[List.getD,hpas]
   rw[hpav] at cp;exact ⟨bP,offP,fun _=>⟨hAP,lbP,cp⟩⟩
  ·exact ⟨0,0,fun h=>absurd h hpas⟩
 have hn3:¬k < i.i.cla.length→cl=true:=fun h=>by rw[←HCL.out];simp[List.getD,h]
 have hn4:¬k < i.i.pas.length→pa=false:=fun h=>by rw[←HPA.out];simp[List.getD,h]
 have CX:CxN v u i k w.heap.size rv x cl pa ca em b2 off2 bS offS bC oC bP oP w3:=⟨bxt,bxi,bxn,hki,hkiu,HA2.out,lb2,fun j y hy=>match j,hy with
  | 0,hy=>(sJ hy)▸q0
  | 1,hy=>(sJ hy)▸q1
  | 2,hy=>(sJ hy)▸q2
  | 3,hy=>(sJ hy)▸q3
  | 4,hy=>(sJ hy)▸q4
  | 5,hy=>(sJ hy)▸q5
  | 6,hy=>(sJ hy)▸q6
  | 7,hy=>(sJ hy)▸q7
  | 8,hy=>(sJ hy)▸q8
  | 9,hy=>(sJ hy)▸q9
  | 10,hy=>(sJ hy)▸q10
  | 11,hy=>(sJ hy)▸q11
  | 12,hy=>(sJ hy)▸q12
  | 13,hy=>(sJ hy)▸q13,HAS.out,lbS,fun j y hy=>match j,hy with
  | 0,hy=>(sJ hy)▸z0
  | 1,hy=>(sJ hy)▸z1
  | 2,hy=>(sJ hy)▸z2,ha3,hn3,ha4,hn4,hn4',hn5',fun W' h=>HEM.out W' h,fun W' h=>HCA.out W' h⟩
 refine nextR v u i k w.heap.size rv x cl pa ca em b2 off2 bS offS bC oC bP oP CX (x7u rfl rfl rfl rfl rfl rfl rfl) ?_;intro a5 w5 hI;obtain ⟨g,e9,hgz,-,hv5⟩:=hI.al (by simp);have hv5:=hv5 (by simp);have e3:=hI.t3;have e4:=hI.t4;have e5:=hI.t5;have e6:=hI.t6;have e8:=hI.t8;rw[z06] at e3 e4 e5 e6 e8 e9;have htm:=y89 a5.tmps 101 hI.ts;simp only[tmL] at htm;rw[e3,e4,e5,e6,e8,e9] at htm;have ha:=y87 htm hI.df;rw[ha];exact TAIL g w5 _ _ _ _ _ _ _ _ _ _ _ _ _ _ _ _ _ _ _ _ _ _ _ _ _ _ _ _ _ _ _ _ _ _ _ _ _ _ _ _ _ _ _ _ _ _ _ _ _ _ _ _ _ _ _ _ _ _ _ _ _ _ _ _ _ _ _ _ _ _ _ _ _ _ _ _ _ _ _ _ _ _ _ _ _ _ _ _ _ _ _ _ _ _ _ hv5 hI.bel
theorem j2w {α:Type} {c:Cod α} {w:World} {base n cap g o:Nat} {e:TypeId} {A:Option Addr} {l:List α} (h:z09 c w base e (.slice A n cap) l 0) (hA:A=some ⟨g,o,none⟩):g < w.heap.size:=by
 subst hA;obtain ⟨xs,h1,h2,h3⟩:=h;rcases h1.2 with ⟨hv,_⟩ | ⟨g',cap',cur,hv,hb,hg,h4,h5,h6⟩
 ·cases hv
 ·simp only[Value.slice.injEq,qE,Addr.mk.injEq,and_true] at hv;rw[hv.1.1];exact z0j hg
def nxK (t:Tab) (s:Itr) (i:Inp) (k:Nat):Itr:=⟨(List.range k).map (z7c t s i)++s.rts.drop k,s.lies⟩
theorem x8v (t:Tab) (s:Itr) (i:Inp):nxK t s i 0=s:=by simp[nxK]
theorem x4i {t:Tab} {s:Itr} {i:Inp} {k:Nat} (h:k≤s.rts.length):(nxK t s i k).rts.length=s.rts.length:=by simp[nxK];omega
theorem x8u {t:Tab} {s:Itr} {i:Inp} {k:Nat} (h:k < s.rts.length):({ nxK t s i k with rts:=(nxK t s i k).rts.set k (z7c t s i k) }:Itr)=nxK t s i (k+1):=by
 have:(nxK t s i k).rts.set k (z7c t s i k)=(nxK t s i (k+1)).rts:=by
  apply List.ext_getElem?;intro j;rw[List.getElem?_set,x4i (by omega)];unfold nxK;simp only[];by_cases hj:k=j
  ·subst hj;rw[if_pos rfl,if_pos h,List.getElem?_append_left (by simp)];simp
  ·rw[if_neg hj];by_cases hjk:j < k
   ·rw[List.getElem?_append_left (by simpa using hjk),List.getElem?_append_left (by simp;omega)];simp[hjk,show j < k+1 by omega]
   ·rw[List.getElem?_append_right (by simpa using hjk),List.getElem?_append_right (by simp;omega)];simp only[List.length_map,List.length_range,List.getElem?_drop];congr 1;omega
 rw[this];rfl
theorem j2q {t:Tab} {s:Itr} {i:Inp} {k:Nat} (h1:k≤s.rts.length) (h:¬k < s.rts.length):nxK t s i k=⟨(List.range s.rts.length).map (z7c t s i),s.lies⟩:=by
 have:k=s.rts.length:=by omega
 subst this;simp[nxK]
theorem x9i {x:RSt} {n:Nat} (h:z0z x n=true) (hn:n≤30000):z0p x.st∧z0p x.rel∧z0p x.tim:=by
 unfold z0z at h;unfold z0p;split at h
 ·rename_i hs;simp only[uT,dET] at h;omega
 ·split at h
  ·simp only[uT,Bool.or_eq_true,dET] at h;omega
  ·split at h
   ·simp only[uT,dET] at h;omega
   ·cases h
theorem j5m {t:Tab} {s:Itr} {i:Inp} (h:z7z t s=true):z1s t s i=(j8k i).foldl (y3e t i) ⟨(List.range s.rts.length).map (z7c t s i),s.lies⟩:=by unfold z1s;rw[if_pos h]
def j9x (v:z1w) (u:z1r) (i:z3n) (w:World) (e:Ending) (w':World):Prop:=
 ∃ (u':z1r) (Ac Al Ar:Option Addr) (cc nl cl nr cr:Nat),e=.returned (.tuple #[.agg #[.slice u'.A1 u'.i.rts.length u'.c1,.slice u'.A2 u'.i.lies.length u'.c2],.agg #[.slice Ac (z2d v.t u'.i).length cc,.slice Al nl cl,.slice Ar nr cr]])∧u'.i=z1s v.t u.i i.i∧ItO w' w.heap.size u'∧z09 cB w' w.heap.size 4 (.slice Ac (z2d v.t u'.i).length cc) (z2d v.t u'.i) 0∧Below w.heap.size w w'
def y5t:Array Oper:=#[.mk (some 36) (.load 41 (.tmp 4)) 41 "interlock.go:44" #[] none,.mk (some 37) (.call (.mk (.value (.func 25)) #[.tmp 36] #[41])) 41 "interlock.go:44" #[.mk 0 .data] none,.mk (some 38) (.load 33 (.tmp 3)) 33 "interlock.go:44" #[] none,.mk (some 39) (.load 49 (.tmp 5)) 49 "interlock.go:44" #[] none,.mk (some 40) (.build 72 #[(0,.tmp 37),(1,.tmp 38),(2,.tmp 39)]) 72 "interlock.go:44" #[.mk 1 .data,.mk 2 .data,.mk 3 .data] none,.mk (some 10) (.alloc 72) 0 "interlock.go:44" #[] none,.mk none (.store 72 (.tmp 10) (.tmp 40)) 0 "interlock.go:44" #[.mk 5 .data,.mk 4 .data,.mk 1 .chain,.mk 0 .phase,.mk 1 .phase,.mk 2 .phase,.mk 3 .phase,.mk 4 .phase,.mk 5 .phase] none]
def x6a (v:z1w) (u:z1r) (i:z3n) (B:Nat) (W:World) (j:Nat) (y:Value) (w:World):Prop:=match j with
 | 0=>y=.agg (z1v u)
 | 1=>∃ u':z1r,y=.agg #[.slice u'.A1 u'.i.rts.length u'.c1,.slice u'.A2 u'.i.lies.length u'.c2]∧u'.i=u.i∧ItO w W.heap.size u'
 | 2=>y=.agg (z0t v)
 | 3=>y=.agg (z3t i)
 | 4=>∃ u':z1r,y=.agg #[.slice u'.A1 u'.i.rts.length u'.c1,.slice u'.A2 u'.i.lies.length u'.c2,.slice v.A1 v.t.rts.length v.c1,.slice v.A2 v.t.pts.length v.c2,.slice v.A3 v.t.homes.length v.c3,.int .i64 v.t.nsec,.int .i64 v.t.nsig,.slice i.A1 i.i.occ.length i.c1,.slice i.A2 i.i.det.length i.c2,.slice i.A3 i.i.clo.length i.c3,.slice i.A4 i.i.cla.length i.c4,.slice i.A5 i.i.pas.length i.c5,.slice i.A6 i.i.calls.length i.c6,.slice i.A7 i.i.cans.length i.c7,.slice none 0 0]∧u'.i=u.i∧ItO w W.heap.size u'
 | 5=>∃ g:Nat,y=.pointer (some ⟨g,0,none⟩)∧W.heap.size≤g∧Blk w g 72 #[.slice none 0 0,.slice none 0 0,.slice none 0 0,.slice none 0 0,.slice none 0 0,.int .i64 0,.int .i64 0,.slice none 0 0,.slice none 0 0,.slice none 0 0,.slice none 0 0,.slice none 0 0,.slice none 0 0,.slice none 0 0,.slice none 0 0]
 | _=>True
theorem j9e {v:z1w} {u:z1r} {i:z3n} {B:Nat} {W:World}:∀ (j:Nat) (y:Value) (w w':World),x6a v u i B W j y w→Below w.heap.size w w'→x6a v u i B W j y w'
 | 0,y,w,w',h,hb=>h
 | 1,y,w,w',h,hb=>(let ⟨u',h1,h2,h3⟩:=h;⟨u',h1,h2,h3.now hb⟩)
 | 2,y,w,w',h,hb=>h
 | 3,y,w,w',h,hb=>h
 | 4,y,w,w',h,hb=>(let ⟨u',h1,h2,h3⟩:=h;⟨u',h1,h2,h3.now hb⟩)
 | 5,y,w,w',h,hb=>(let ⟨g,h1,h2,h3⟩:=h;⟨g,h1,h2,h3.now hb⟩)
 | _+6,_,_,_,_,_=>trivial
theorem j6x {Q:Exit→Act→World→Prop} {id:Nat} {a0:Act} {W:World} (v:z1w) (u:z1r) (i:z3n) (B:Nat) (x0:Blk W B 33 (z0t v)) (x1:Blk W (B+1) 41 (z1v u)) (x2:Blk W (B+1+1) 49 (z3t i)) (hu:y1j W u) (n1:u.i.rts.length≤100000) (n2:u.i.lies.length≤100000) (h0:a0.tmps.size=81) (T3:a0.eval (.tmp 3)=.pointer (some ⟨B,0,none⟩)) (T4:a0.eval (.tmp 4)=.pointer (some ⟨(B+1),0,none⟩)) (T5:a0.eval (.tmp 5)=.pointer (some ⟨(B+1+1),0,none⟩))
  (hend:∀ a w,a.tmps.size=81→a.defers=a0.defers→(∀ s,s∉(List.range 6).map (z7i y5t)→a.eval (.tmp s)=a0.eval (.tmp s))→Below W.heap.size W w→(∀ j,j < 6→x6a v u i B W j (a.eval (.tmp (z7i y5t j))) w)→wpAny Tryz.prog .any y5t Q 1 #[true,true,true,true,true,true,false] a w):(Code.region id y5t true).wp Tryz.prog Q a0 W:=by
 refine z6a 6 1 81 #[true,true,true,true,true,true,false] (by kernel_rfl) (by kernel_rfl) h0 (by kernel_rfl) (by kernel_rfl) (x6a v u i B W) j9e ?_ hend;intro jx hjx a w hts hdf hk hb hd;clear hend hdf h0;have hc:jx=0∨jx=1∨jx=2∨jx=3∨jx=4∨jx=5:=by omega
 rcases hc with rfl | rfl | rfl | rfl | rfl | rfl
 ·refine x22 rfl fun K hK=>?_
  have t4:=(hk 4 (by decide +kernel)).trans T4;rw[z06] at t4;clear hk hd hts T3 T4 T5;have ld:=z0c (x1.now hb) 2 rfl;clear x0 x1 x2 hu;go_simp
  exact hK.out _ _ bQ rfl
 ·refine x22 rfl fun K hK=>?_
  have e0:_=_:=y52 (s:=36) hd rfl 0 rfl rfl rfl rfl;rw[z06] at e0;clear hk hd hts T3 T4 T5;have HC:=hE (x0r u w (hu.now hb) n1 n2);have hz:=hb.size;clear x0 x1 x2 hu;go_simp
  refine HC.out.mono ?_;rintro e w2 ⟨u',rfl,hi,ho,hq⟩;exact hK.out _ _ hq ⟨u',rfl,hi,ho.lower hz⟩
 ·refine x22 rfl fun K hK=>?_
  have t3:=(hk 3 (by decide +kernel)).trans T3;rw[z06] at t3;clear hk hd hts T3 T4 T5;have ld:=z0c (x0.now hb) 5 rfl;clear x0 x1 x2 hu;go_simp
  exact hK.out _ _ bQ rfl
 ·refine x22 rfl fun K hK=>?_
  have t5:=(hk 5 (by decide +kernel)).trans T5;rw[z06] at t5;clear hk hd hts T3 T4 T5;have ld:=z0c (x2.now hb) 7 rfl;clear x0 x1 x2 hu;go_simp
  exact hK.out _ _ bQ rfl
 ·refine x22 rfl fun K hK=>?_
  obtain ⟨u',e1,hui,huo⟩:=y52 (s:=37) hd rfl 0 rfl rfl rfl rfl;rw[z06] at e1;have e2:_=_:=y52 (s:=38) hd rfl 1 rfl rfl rfl rfl;rw[z06] at e2;have e3:_=_:=y52 (s:=39) hd rfl 2 rfl rfl rfl rfl;rw[z06] at e3;clear hk hd hts T3 T4 T5;have HUI:=hE (aIq hui huo);clear x0 x1 x2 hu hui huo;go_simp
  exact hK.out _ _ bQ ⟨u',rfl,HUI.out⟩
 ·refine x22 rfl fun K hK=>?_
  clear hk hd hts T3 T4 T5;have hz:=hb.size;clear x0 x1 x2 hu;go_simp
  exact hK.out _ _ (bQ.alloc nL _) ⟨_,rfl,hz,Blk.new _ _ _ _ rfl⟩
theorem j1f {Q:Exit→Act→World→Prop} {id:Nat} {a0:Act} {W:World} (v:z1w) (u:z1r) (i:z3n) (B:Nat) (x0:Blk W B 33 (z0t v)) (x1:Blk W (B+1) 41 (z1v u)) (x2:Blk W (B+1+1) 49 (z3t i)) (hu:y1j W u) (n1:u.i.rts.length≤100000) (n2:u.i.lies.length≤100000) (h0:a0.tmps.size=81) (t3:a0.eval (.tmp 3)=.pointer (some ⟨B,0,none⟩)) (t4:a0.eval (.tmp 4)=.pointer (some ⟨(B+1),0,none⟩)) (t5:a0.eval (.tmp 5)=.pointer (some ⟨(B+1+1),0,none⟩))
  (hend:∀ a (w:World) (g:Nat) (u':z1r),a.tmps.size=81→a.defers=a0.defers→a.eval (.tmp 3)=a0.eval (.tmp 3)→a.eval (.tmp 4)=a0.eval (.tmp 4)→a.eval (.tmp 5)=a0.eval (.tmp 5)→a.eval (.tmp 6)=a0.eval (.tmp 6)→a.eval (.tmp 7)=a0.eval (.tmp 7)→a.eval (.tmp 8)=a0.eval (.tmp 8)→a.eval (.tmp 10)=.pointer (some ⟨g,0,none⟩)→u'.i=u.i→CyB v i W w.heap.size g u' [] none 0 w→Q .normal a w):(Code.region id y5t true).wp Tryz.prog Q a0 W:=by
 refine j6x v u i B x0 x1 x2 hu n1 n2 h0 t3 t4 t5 ?_;intro a w hts hdf hk hb hp;obtain ⟨u',e40,hui,huo⟩:∃ u':z1r,a.eval (.tmp 40)=.agg #[.slice u'.A1 u'.i.rts.length u'.c1,.slice u'.A2 u'.i.lies.length u'.c2,.slice v.A1 v.t.rts.length v.c1,.slice v.A2 v.t.pts.length v.c2,.slice v.A3 v.t.homes.length v.c3,.int .i64 v.t.nsec,.int .i64 v.t.nsig,.slice i.A1 i.i.occ.length i.c1,.slice i.A2 i.i.det.length i.c2,.slice i.A3 i.i.clo.length i.c3,.slice i.A4 i.i.cla.length i.c4,.slice i.A5 i.i.pas.length i.c5,.slice i.A6 i.i.calls.length i.c6,.slice i.A7 i.i.cans.length i.c7,.slice none 0 0]∧u'.i=u.i∧ItO w W.heap.size u':=hp 4 (by decide);obtain ⟨g,e10,hg,hbk⟩:∃ g:Nat,a.eval (.tmp 10)=.pointer (some ⟨g,0,none⟩)∧W.heap.size≤g∧Blk w g 72 #[.slice none 0 0,.slice none 0 0,.slice none 0 0,.slice none 0 0,.slice none 0 0,.int .i64 0,.int .i64 0,.slice none 0 0,.slice none 0 0,.slice none 0 0,.slice none 0 0,.slice none 0 0,.slice none 0 0,.slice none 0 0,.slice none 0 0]:=hp 5 (by decide);refine z6m (i:=6) (by kernel_rfl) ?_;refine z4r rfl ?_;refine z1b rfl _ _ _ rfl g #[.slice u'.A1 u'.i.rts.length u'.c1,.slice u'.A2 u'.i.lies.length u'.c2,.slice v.A1 v.t.rts.length v.c1,.slice v.A2 v.t.pts.length v.c2,.slice v.A3 v.t.homes.length v.c3,.int .i64 v.t.nsec,.int .i64 v.t.nsig,.slice i.A1 i.i.occ.length i.c1,.slice i.A2 i.i.det.length i.c2,.slice i.A3 i.i.clo.length i.c3,.slice i.A4 i.i.cla.length i.c4,.slice i.A5 i.i.pas.length i.c5,.slice i.A6 i.i.calls.length i.c6,.slice i.A7 i.i.cans.length i.c7,.slice none 0 0] e10 e40 72 #[.slice none 0 0,.slice none 0 0,.slice none 0 0,.slice none 0 0,.slice none 0 0,.int .i64 0,.int .i64 0,.slice none 0 0,.slice none 0 0,.slice none 0 0,.slice none 0 0,.slice none 0 0,.slice none 0 0,.slice none 0 0,.slice none 0 0] hbk (by kernel_rfl) rfl (by simp[Value.oneCell']) ?_;refine z7w (by kernel_rfl) ?_;have p1:=(z0q #[.slice u'.A1 u'.i.rts.length u'.c1,.slice u'.A2 u'.i.lies.length u'.c2,.slice v.A1 v.t.rts.length v.c1,.slice v.A2 v.t.pts.length v.c2,.slice v.A3 v.t.homes.length v.c3,.int .i64 v.t.nsec,.int .i64 v.t.nsig,.slice i.A1 i.i.occ.length i.c1,.slice i.A2 i.i.det.length i.c2,.slice i.A3 i.i.clo.length i.c3,.slice i.A4 i.i.cla.length i.c4,.slice i.A5 i.i.pas.length i.c5,.slice i.A6 i.i.calls.length i.c6,.slice i.A7 i.i.cans.length i.c7,.slice none 0 0] hbk)
 have p2:=(z3v #[.slice u'.A1 u'.i.rts.length u'.c1,.slice u'.A2 u'.i.lies.length u'.c2,.slice v.A1 v.t.rts.length v.c1,.slice v.A2 v.t.pts.length v.c2,.slice v.A3 v.t.homes.length v.c3,.int .i64 v.t.nsec,.int .i64 v.t.nsig,.slice i.A1 i.i.occ.length i.c1,.slice i.A2 i.i.det.length i.c2,.slice i.A3 i.i.clo.length i.c3,.slice i.A4 i.i.cla.length i.c4,.slice i.A5 i.i.pas.length i.c5,.slice i.A6 i.i.calls.length i.c6,.slice i.A7 i.i.cans.length i.c7,.slice none 0 0] hbk).2;refine hend _ _ g u' hts hdf (hk 3 (by decide +kernel)) (hk 4 (by decide +kernel)) (hk 5 (by decide +kernel)) (hk 6 (by decide +kernel)) (hk 7 (by decide +kernel)) (hk 8 (by decide +kernel)) e10 hui ?_;have o1:=huo.o1.frm p1.2 (by decide) nZ;have o2:=huo.o2.frm p1.2 (by decide) nZ;refine ⟨p1.1,o1,o2,fun g' hA=>?_,z09.nil _ _ _ _ nZ,hg,nR hb.size p2.size,nL,hb.trans (p2.mono hg)⟩;exact j2w o2 hA
theorem y03 (v:z1w) (u:z1r) (i:z3n) (w:World) (hr:TvR w v) (hs:y1j w u) (hi:y1d w i) (hS:y4p v.t) (hsd:z7z v.t u.i=true) (hca:i.i.calls.length≤80000):Calls Tryz.prog 9 #[.agg (z0t v),.agg (z1v u),.agg (z3t i)] w (j9x v u i w):=by
 have hsn:=z1j.1 hsd;have hF:=z6u (z3s.2 hsn.fit);have hnr:=(z8l hF.chk).nr;have hnp:=(z8l hF.chk).np;obtain ⟨W1,hW1⟩:∃ W,W=((((w.alloc (.cells (z0t v) 33)).alloc (.cells (z1v u) 41)).alloc (.cells (z3t i) 49)).alloc (.cells #[.slice none 0 0,.slice none 0 0] 41)).alloc (.cells #[.slice none 0 0,.slice none 0 0,.slice none 0 0] 45):=⟨_,rfl⟩
 have hb1:Below w.heap.size w W1:=by rw[hW1];exact ((((bQ.alloc nL _).alloc (by simp) _).alloc (by simp;omega) _).alloc (by simp;omega) _).alloc (by simp;omega) _
 have hx0:Blk W1 w.heap.size 33 (z0t v):=by rw[hW1];exact ((((Blk.new _ _ _ _ rfl).alloc _).alloc _).alloc _).alloc _
 have hx1:Blk W1 (w.heap.size+1) 41 (z1v u):=by rw[hW1];exact (((Blk.new _ _ _ _ (by simp)).alloc _).alloc _).alloc _
 have hx2:Blk W1 (w.heap.size+1+1) 49 (z3t i):=by rw[hW1];exact ((Blk.new _ _ _ _ (by simp)).alloc _).alloc _
 have hx3:Blk W1 (w.heap.size+1+1+1) 41 #[.slice none 0 0,.slice none 0 0]:=by rw[hW1];exact (Blk.new _ _ _ _ (by simp)).alloc _
 have hx4:Blk W1 (w.heap.size+1+1+1+1) 45 #[.slice none 0 0,.slice none 0 0,.slice none 0 0]:=by rw[hW1];exact Blk.new _ _ _ _ (by simp)
 have HMK:=hE (x8o i.i.calls i.A6 i.c6 W1 (hi.now hb1).r6 (by omega));obtain ⟨C,hC⟩:∃ C,z0v (z4l ltI i.i.calls)=C:=⟨_,rfl⟩
 rw[hC] at HMK;have HCE:=hE ((j5m hsd).trans (by unfold j8k;rw[hC]):z1s v.t u.i i.i=C.foldl (y3e v.t i.i) ⟨(List.range u.i.rts.length).map (z7c v.t u.i i.i),u.i.lies⟩);have hCl:C.length≤80000:=by rw[←hC];have:=z4t (z4l ltI i.i.calls);rw[(z1k (lt:=ltI) i.i.calls).length_eq] at this;omega
 have HCL:=hE hCl;have HSD:=hE fun W' (h:Below W1.heap.size W1 W')=>y6d v u W' (hr.now (z00 hb1 hb1.size h)) (hs.now (z00 hb1 hb1.size h)) hS
 rw[hsd] at HSD;have HSN:=hE hsn;have HFF:=hE hF;have x25:=hx2.cell 5;have lx2:=hx2.lt;simp only[gqA,gqZ,gqS] at x25;clear hsd hsn hF hC hCl;go_enter Tryz.func9,Tryz.ntmps9
 go_upto_region 1 with (fail)
 rw[←hW1];clear hW1;go_wp2_with fail
 refine HMK.out.mono ?_;rintro e w2 ⟨Ac,cc,rfl,hoc,hq2⟩;clear HMK x25 lx2;have ld0:=z0c (hx0.now hq2) 5 rfl;have ld1:=z0c (hx1.now hq2) 2 rfl;have HS2:=hE (HSD.out _ hq2);go_wp2_with fail
 refine HS2.out.mono ?_;rintro e w3 ⟨rfl,hq3⟩;have hq13:=z00 hq2 hq2.size hq3;have hb3:=z00 hb1 hb1.size hq13;have hx0:=hx0.now hq13;have hx1:=hx1.now hq13;have hx2:=hx2.now hq13;have hx3:=hx3.now hq13;have hx4:=hx4.now hq13;have hrc:RdS cI w3 (Lt w3) Ac C:=((hoc.now hq3).rdn.2).more fun b h=>h.2
 have hnc:=hoc.rdn.1;clear ld0 ld1 HS2 HSD hq2 hq3 hq13 hoc;have HX:=hE (aIq hx0 (aIq hx1 (aIq hx2 (aIq hx3 hx4))));have HRC:=hE hrc;have HB3:=hE hb3;clear hx0 hx1 hx2 hx3 hx4 hrc hb1 hb3;go_wp2_with fail
 rename_i K hK;have TAIL:∀ (w7:World) (gc:Nat) (u7:z1r) (z0 z1 z2 z9 z11 z12 z13 z14 z15 z16 z17 z18 z19 z20 z21 z22 z23 z24 z25 z26 z27 z28 z29 z30 z31 z32 z33 z34 z35 z36 z37 z38 z39 z40 z41 z42 z43 z44 z45 z46 z47 z48 z49 z50 z51 z52 z53 z54 z55 z56 z57 z58 z59 z60 z61 z62 z63 z64 z65 z66 z67 z68 z69 z70 z71 z72 z73 z74 z75 z76 z77 z78 z79 z80:Value),u7.i=u.i→CyB v i w3 w7.heap.size gc u7 [] none 0 w7→K { tmps:=#[z0,z1,z2,.pointer (some ⟨w.heap.size,0,none⟩),.pointer (some ⟨w.heap.size+1,0,none⟩),.pointer (some ⟨w.heap.size+1+1,0,none⟩),.pointer (some ⟨w.heap.size+1+1+1,0,none⟩),.pointer (some ⟨w.heap.size+1+1+1+1,0,none⟩),.slice Ac C.length cc,z9,.pointer (some ⟨gc,0,none⟩),z11,z12,z13,z14,z15,z16,z17,z18,z19,z20,z21,z22,z23,z24,z25,z26,z27,z28,z29,z30,z31,z32,z33,z34,z35,z36,z37,z38,z39,z40,z41,z42,z43,z44,z45,z46,z47,z48,z49,z50,z51,z52,z53,z54,z55,z56,z57,z58,z59,z60,z61,z62,z63,z64,z65,z66,z67,z68,z69,z70,z71,z72,z73,z74,z75,z76,z77,z78,z79,z80],defers:=[] } w7:=by
  intro w7 gc u7 z0 z1 z2 z9 z11 z12 z13 z14 z15 z16 z17 z18 z19 z20 z21 z22 z23 z24 z25 z26 z27 z28 z29 z30 z31 z32 z33 z34 z35 z36 z37 z38 z39 z40 z41 z42 z43 z44 z45 z46 z47 z48 z49 z50 z51 z52 z53 z54 z55 z56 z57 z58 z59 z60 z61 z62 z63 z64 z65 z66 z67 z68 z69 z70 z71 z72 z73 z74 z75 z76 z77 z78 z79 z80 hui hcy;refine hK _ _ ?_;have HCY:=hE hcy;have HUI:=hE hui;have c0:=hcy.blk.cell 0;have lc:=hcy.blk.lt;simp only[gqA,gqZ,gqS] at c0;have hl7:u7.i.rts.length=u.i.rts.length:=by rw[hui]
  rw[hl7] at c0;clear hcy hui hl7;obtain ⟨N,hN⟩:∃ N,w7.heap.size=N:=⟨_,rfl⟩
  have HCY0:=hE (show CyB v i w3 N gc u7 [] none 0 w7 by rw[←hN];exact HCY.out);clear HCY hN;go_wp2_with fail
  clear c0 lc;go_loopw [45] (fun a wr=>∃ (k:Nat) (uk:z1r),a=.int .i64 k∧k≤u.i.rts.length∧uk.i=nxK v.t u.i i.i k∧CyB v i w3 N gc uk [] none 0 wr) (fun n _=>u.i.rts.length - (intOf n).toNat)
  case atStart=>exact ⟨0,u7,rfl,nZ,by rw[x8v];exact HUI.out,HCY0.out⟩
  case round=>
   obtain ⟨k,uk,rfl,hkl,huk,hB⟩:=hrel;clear HCY0;by_cases hlt:k < u.i.rts.length
   ·have hki:(k:Int) < (u.i.rts.length:Int):=by omega
    obtain ⟨hx0,hx1,hx2,-,-⟩:=HX.out;have hl2:uk.i.rts.length=u.i.rts.length:=by rw[huk,x4i hkl]
    have hku:k < uk.i.rts.length:=by omega
    have hkt:k < v.t.rts.length:=by rw[←HFF.out.l1];exact hlt
    obtain ⟨gR,hA1,-⟩:=hB.j8y hku ⟨1,0,0⟩ ⟨j1r,y5d,y5d⟩;have HSS:Hid (∀ W,Blk W gc 72 #[.slice uk.A1 uk.i.rts.length uk.c1,.slice uk.A2 uk.i.lies.length uk.c2,.slice v.A1 v.t.rts.length v.c1,.slice v.A2 v.t.pts.length v.c2,.slice v.A3 v.t.homes.length v.c3,.int .i64 v.t.nsec,.int .i64 v.t.nsig,.slice i.A1 i.i.occ.length i.c1,.slice i.A2 i.i.det.length i.c2,.slice i.A3 i.i.clo.length i.c3,.slice i.A4 i.i.cla.length i.c4,.slice i.A5 i.i.pas.length i.c5,.slice i.A6 i.i.calls.length i.c6,.slice i.A7 i.i.cans.length i.c7,.slice none 0 0]→Below w3.heap.size w3 W→(fun w'=>w'.cell? ⟨gc,0,none⟩=some (.slice (some ⟨gR,0,none⟩) uk.i.rts.length uk.c1)∧Sem.run Tryz.prog (loadCellsFrom ⟨w.heap.size,0,none⟩ 0 5 #[]) w' = .ok (z0t v) w'∧Sem.run Tryz.prog (loadCellsFrom ⟨w.heap.size+1,0,none⟩ 0 2 #[]) w' = .ok (z1v u) w'∧Sem.run Tryz.prog (loadCellsFrom ⟨w.heap.size+1+1,0,none⟩ 0 7 #[]) w' = .ok (z3t i) w') W):=hE fun W q1 q2=>⟨(q1.cell 0).trans (by rw[hA1];rfl),z0c (hx0.below q2 hx0.lt) 5 rfl,z0c (hx1.below q2 hx1.lt) 2 rfl,z0c (hx2.below q2 hx2.lt) 7 rfl⟩
    have HNX:=hE fun W' (h:Below w3.heap.size w3 W')=>x8r v u i k W' (hr.now (z00 HB3.out HB3.out.size h)) (hs.now (z00 HB3.out HB3.out.size h)) (hi.now (z00 HB3.out HB3.out.size h)) hS HFF.out hkt
    have hok:=(y5r (i:=i.i) HSN.out.fit hkt).1;rw[z2u hkt] at hok;have h64:=x9i hok (hS _ (uE hkt)).n3;obtain ⟨x,hx⟩:∃ x,z7c v.t u.i i.i k=x:=⟨_,rfl⟩
    rw[hx] at HNX h64;unfold rsV at HNX;have HXE:=hE hx;have HB:=hE hB;have HUK:=hE huk;have HL2:=hE hl2;have HKU:=hE hku;have hkui:(k:Int) < (uk.i.rts.length:Int):=by omega
    have HA1:=hE hA1;clear hx0 hx1 hx2 hB huk hok hx hl2 hA1 hku;go_upto_region 11 with (fail)
    refine j8a 11 HSS HB.out.blk.drew HB.out.bel.drew fun hHeld=>?_
    refine tkM 8 [0,1,2,3,4,5,6,7] ?_;refine rd1 8 rfl fun K hK=>?_
    go_simp;go_at_call 26
    refine (HNX.out _ HB.out.bel.drew).mono ?_;rintro e w5 ⟨rfl,hq5⟩;have hq:Below wr.heap.size wr w5:=z00 (Below.refl wr.heap.size wr).drew nL hq5;go_wp2_with fail
    refine hK.out _ _ (HSS.out _ (HB.out.blk.now hq) (z00 HB.out.bel HB.out.bel.size hq)) (fun hHeld=>?_);clear hK K;try simp only[Act.put,lsa,lsz,lss]
    refine tkM 1 [9] ?_;have hB5:=HB.out.now hq;obtain ⟨gR',hA1',lR,fR,cR,hB6,hf6⟩:=hB5.j8y HKU.out x h64;have hgg:gR' = gR:=by rw[HA1.out] at hA1';simp only[qE,Addr.mk.injEq,and_true] at hA1';exact hA1'.symm
    subst hgg;obtain ⟨y0,hy0⟩:=cR 0 (by omega);obtain ⟨y1,hy1⟩:=cR 1 (by omega);obtain ⟨y2,hy2⟩:=cR 2 (by omega);rw[Nat.add_zero] at hy0;have f0:=fR (k*3);have f1:=fR (k*3+1);have f2:=fR (k*3+2);have HB6:=hE (aIq hB6 (hf6.blk hB5.blk (by decide)));clear hB5 hB6 hf6 hA1' hq hq5 fR cR;refine rd1 10 rfl fun K hK=>?_
    go_simp;refine hK.out _ _ (HSS.out _ HB6.out.2 HB6.out.1.bel) (fun hHeld=>?_);clear hK K;try simp only[Act.put,lsa,lsz,lss]
    refine wdn ?_;clear hHeld;go_wp2_with fail
    go_roundw
    case rel=>
     have hk1:k+1≤u.i.rts.length:=by omega
     refine ⟨k+1,_,by go_num,hk1,?_,HB6.out.1⟩;have:=x8u (t:=v.t) (i:=i.i) (s:=u.i) (k:=k) hk1;rw[HXE.out,←HUK.out] at this;exact this
    case measure=>simp[intOf];omega
   ·have hki:¬(k:Int) < (u.i.rts.length:Int):=by omega
    have hke:=j2q (t:=v.t) (i:=i.i) hkl hlt;rw[←huk] at hke;have HUK:=hE hke;have HB:=hE hB;have HN1:=hE (step_ok (i:=i.i) HSN.out);clear huk hke hB;have hnc':=hnc.1;unfold maxLen at hnc';go_wp2_with fail
    go_loopw [61] (fun a wz=>∃ (m:Nat) (um:z1r) (rf:List Int) (Ar:Option Addr) (cr:Nat),a=.int .i64 m∧m≤C.length∧um.i=(C.take m).foldl (y3e v.t i.i) ⟨(List.range u.i.rts.length).map (z7c v.t u.i i.i),u.i.lies⟩∧rf.length≤m∧CyB v i w3 N gc um rf Ar cr wz) (fun n _=>C.length - (intOf n).toNat)
    case atStart=>exact ⟨0,uk,[],none,0,rfl,nZ,HUK.out,nL,HB.out⟩
    case round=>
     obtain ⟨wz,hww⟩:∃ W,W=wr:=⟨_,rfl⟩
     subst hww;obtain ⟨m,um,rf,Ar,cr,rfl,hml,hum,hrf,hB⟩:=hrel;clear HB HUK;by_cases hlm:m < C.length
     ·have hmi:(m:Int) < (C.length:Int):=by omega
      have hrc:=HRC.out.now hB.bel;obtain ⟨bc,oc,hAc,lbc,h64,y0⟩:=hrc.elI hlm;obtain ⟨x,hx⟩:∃ x,C[m]=x:=⟨_,rfl⟩
      rw[hx] at h64 y0;have lbc':bc < wz.heap.size:=lbc;have hsm:z7z v.t um.i=true:=z1j.2 (by rw[hum];exact y6t _ _ HN1.out);have HCA:=hE (x6p v um i x w3 wz N gc cr rf Ar (hr.now HB3.out) (hi.now HB3.out) hS hsm h64 (by have:=HCL.out;omega) hB);have HUE:Hid (y3e v.t i.i um.i x=(C.take (m+1)).foldl (y3e v.t i.i) ⟨(List.range u.i.rts.length).map (z7c v.t u.i i.i),u.i.lies⟩):=hE (by rw[tqS hlm,List.foldl_append,←hum,hx];rfl);have HAC:=hE hAc;rw[hAc];clear hum hB hrc hx lbc hsm hAc;go_wp2_with fail
      refine HCA.out.mono ?_;rintro e w5 ⟨rfl,u5,rf5,A5,c5,hu5,hr5,hB5⟩;have HB5:=hE (aIq hu5 hB5);clear hu5 hB5 HCA y0 lbc' h64;go_wp2_with fail
      go_roundw
      case rel=>
       have hm1:m+1≤C.length:=by omega
       exact ⟨m+1,u5,rf5,A5,c5,by go_num,hm1,HB5.out.1.trans HUE.out,by omega,HB5.out.2⟩
      case measure=>simp[intOf];omega
     ·have hmi:¬(m:Int) < (C.length:Int):=by omega
      have hue:um.i=z1s v.t u.i i.i:=by rw[hum,HCE.out,tlL (by omega)]
      have hsm:z9u v.t um.i:=by rw[hum];exact y6t _ _ HN1.out
      have HUE:=hE hue;obtain ⟨hx0,-,-,hx3,hx4⟩:=HX.out;have HSS:Hid (∀ W,Blk W gc 72 #[.slice um.A1 um.i.rts.length um.c1,.slice um.A2 um.i.lies.length um.c2,.slice v.A1 v.t.rts.length v.c1,.slice v.A2 v.t.pts.length v.c2,.slice v.A3 v.t.homes.length v.c3,.int .i64 v.t.nsec,.int .i64 v.t.nsig,.slice i.A1 i.i.occ.length i.c1,.slice i.A2 i.i.det.length i.c2,.slice i.A3 i.i.clo.length i.c3,.slice i.A4 i.i.cla.length i.c4,.slice i.A5 i.i.pas.length i.c5,.slice i.A6 i.i.calls.length i.c6,.slice i.A7 i.i.cans.length i.c7,.slice Ar rf.length cr]→Blk W w.heap.size 33 (z0t v)→(fun w'=>Sem.run Tryz.prog (loadCellsFrom ⟨gc,0,none⟩ 0 2 #[]) w' = .ok (z1v um) w'∧Sem.run Tryz.prog (loadCellsFrom ⟨w.heap.size,0,none⟩ 0 5 #[]) w' = .ok (z0t v) w'∧w'.cell? ⟨gc,1,none⟩=some (.slice um.A2 um.i.lies.length um.c2)∧w'.cell? ⟨gc,14,none⟩=some (.slice Ar rf.length cr)) W):=hE fun W q1 q2=>⟨z2h q1 0 2 [.slice um.A1 um.i.rts.length um.c1,.slice um.A2 um.i.lies.length um.c2] rfl rfl,z0c q2 5 rfl,q1.cell 1,q1.cell 14⟩
      have HSG:=hE fun W' (h:Below wz.heap.size wz W')=>y83 v um W' (hr.now (z00 HB3.out HB3.out.size (z00 hB.bel hB.bel.size h))) (hB.itr.now h) hsm.fit.ck hsm.fit.n1
      have hml2:=hsm.fit.n2;have HCL:=hE fun W' (h:Below wz.heap.size wz W')=>z2j um.i.lies um.A2 um.c2 W' (hB.itr.now h).r2 (by omega)
      have HB:=hE hB;have HZ0:=hE (hx0.below hB.bel hx0.lt);have HZ3:=hE (hx3.below hB.bel hx3.lt);have HZ4:=hE (hx4.below hB.bel hx4.lt);clear hx0 hx3 hx4 hum hue hsm hB hml2;obtain ⟨sg,hsg⟩:∃ l,z2d v.t um.i=l:=⟨_,rfl⟩
      rw[hsg] at HSG;have HSE:=hE hsg;clear hsg;go_upto_region 18 with (fail)
      refine j8a 15 HSS HB.out.blk.drew HZ0.out.drew fun hHeld=>?_
      refine tkM 10 [0,1,2,3,4,6,7,8,10,11] ?_;refine rd1 5 rfl fun K hK=>?_
      go_simp;go_at_call 28
      refine (HSG.out _ bQ.drew).mono ?_;rintro e w5 ⟨As,cs,rfl,hos,hq5⟩;have hq:Below wz.heap.size wz w5:=z00 (Below.refl wz.heap.size wz).drew nL hq5;go_wp2_with fail
      refine hK.out _ _ (HSS.out _ (HB.out.blk.now hq) (HZ0.out.now hq)) (fun hHeld=>?_);clear hK K;try simp only[Act.put,lsa,lsz,lss]
      refine rd1 9 rfl fun K hK=>?_
      go_simp;go_at_call 24
      refine (HCL.out _ hq).mono ?_;rintro e w6 ⟨v6,rfl,ho6,hq6⟩;obtain ⟨A6,c6,rfl⟩:=ho6.form;have hq2:Below wz.heap.size wz w6:=z00 hq hq.size hq6;go_wp2_with fail
      refine hK.out _ _ (HSS.out _ (HB.out.blk.now hq2) (HZ0.out.now hq2)) (fun hHeld=>?_);clear hK K;try simp only[Act.put,lsa,lsz,lss]
      refine tkM 1 [12] ?_;have hB6:=HB.out.now hq2;have hz3:=HZ3.out.now hq2;have hz4:=HZ4.out.now hq2;have hz0:=HZ0.out.now hq2;have hos6:=(hos.now hq6).lower (show w.heap.size≤wz.drew.heap.size from nR HB3.out.size HB.out.bel.size);have p3:=z0q (z1v um) hz3;have hb6:=(HB3.out.trans (hB6.bel.mono HB3.out.size)).trans ((z3v (z1v um) hz3).2.mono (show w.heap.size≤w.heap.size+1+1+1 by omega));have q4:=p3.2.blk hz4 (by decide);have HP3:=hE (aIq (p3.2.blk hB6.blk (by decide)) (p3.2.blk hz0 (by decide)));have p4:=z0q #[.slice As sg.length cs,.slice A6 um.i.lies.length c6,.slice Ar rf.length cr] q4;have hb7:=hb6.trans ((z3v #[.slice As sg.length cs,.slice A6 um.i.lies.length c6,.slice Ar rf.length cr] q4).2.mono (show w.heap.size≤w.heap.size+1+1+1+1 by omega));have HP4:=hE (aIq (p4.2.blk (p3.2.blk hB6.blk (by decide)) (by decide)) (p4.2.blk (p3.2.blk hz0 (by decide)) (by decide)));have HFIN:=hE (aIq (p4.2.blk p3.1 (by decide)) (aIq p4.1 (aIq hb7 (aIq (((hB6.o1.lower HB3.out.size).frm p3.2 (by decide) nZ).frm p4.2 (by decide) nZ) (aIq (((hB6.o2.lower HB3.out.size).frm p3.2 (by decide) nZ).frm p4.2 (by decide) nZ) ((hos6.frm p3.2 (by decide) nZ).frm p4.2 (by decide) nZ))))));clear hB6 hz0 p3 p4 hb6 hb7 hos6 hos ho6 hq hq2 hq5 hq6;refine rd1 13 rfl fun K hK=>?_
      refine z1b rfl _ _ _ rfl (w.heap.size+1+1+1) (z1v um) rfl rfl 41 #[.slice none 0 0,.slice none 0 0] hz3 (by kernel_rfl) rfl (by simp[Value.oneCell']) ?_;refine hK.out _ _ (HSS.out _ HP3.out.1 HP3.out.2) (fun hHeld=>?_);clear hK K;try simp only[Act.put,lsa,lsz,lss]
      refine rd1 14 rfl fun K hK=>?_
      refine z1b rfl _ _ _ rfl (w.heap.size+1+1+1+1) #[.slice As sg.length cs,.slice A6 um.i.lies.length c6,.slice Ar rf.length cr] rfl rfl 45 #[.slice none 0 0,.slice none 0 0,.slice none 0 0] q4 (by kernel_rfl) rfl (by simp[Value.oneCell']) ?_;refine hK.out _ _ (HSS.out _ HP4.out.1 HP4.out.2) (fun hHeld=>?_);clear hK K;try simp only[Act.put,lsa,lsz,lss]
      refine wdn ?_;clear hHeld hz3 hz4 q4 HP3 HP4;go_wp2_with fail
      obtain ⟨r3,r4,hbf,ho1,ho2,hos⟩:=HFIN.out;have p0:=r3.cell 0;have p1:=r3.cell 1;have pl:=r3.lt;have s0:=r4.cell 0;have s1:=r4.cell 1;have s2:=r4.cell 2;have sl:=r4.lt;simp only[gqA,gqZ,gqS] at p0 p1 s0 s1 s2;refine bodyPost_ret (v:=.tuple #[.agg (z1v um),.agg #[.slice As sg.length cs,.slice A6 um.i.lies.length c6,.slice Ar rf.length cr]]) (by simp[results,Tryz.results9,go_sem,loadCellsFrom,p0,p1,pl,s0,s1,s2,sl]) rfl ?_;exact ⟨um,As,A6,Ar,cs,um.i.lies.length,c6,rf.length,cr,by rw[HSE.out],HUE.out,⟨ho1,ho2⟩,by rw[HSE.out];exact hos,hbf⟩
 obtain ⟨hx0,hx1,hx2,-,-⟩:=HX.out;refine j1f v u i w.heap.size hx0 hx1 hx2 (hs.now HB3.out) (by have:=HFF.out.l1;omega) (by have:=HFF.out.l2;omega) rfl rfl rfl rfl ?_;intro a7 w7 gc u7 hts hdf e3 e4 e5 e6 e7 e8 e10 hui hcy;have d3:a7.eval (.tmp 3)=.pointer (some ⟨w.heap.size,0,none⟩):=e3.trans rfl;have d4:a7.eval (.tmp 4)=.pointer (some ⟨w.heap.size+1,0,none⟩):=e4.trans rfl;have d5:a7.eval (.tmp 5)=.pointer (some ⟨w.heap.size+1+1,0,none⟩):=e5.trans rfl;have d6:a7.eval (.tmp 6)=.pointer (some ⟨w.heap.size+1+1+1,0,none⟩):=e6.trans rfl;have d7:a7.eval (.tmp 7)=.pointer (some ⟨w.heap.size+1+1+1+1,0,none⟩):=e7.trans rfl;have d8:a7.eval (.tmp 8)=.slice Ac C.length cc:=e8.trans rfl;rw[z06] at d3 d4 d5 d6 d7 d8 e10;have htm:=y89 a7.tmps 81 hts;simp only[tmL] at htm;rw[d3,d4,d5,d6,d7,d8,e10] at htm;have ha:=y87 htm hdf;rw[ha];exact TAIL w7 gc u7 _ _ _ _ _ _ _ _ _ _ _ _ _ _ _ _ _ _ _ _ _ _ _ _ _ _ _ _ _ _ _ _ _ _ _ _ _ _ _ _ _ _ _ _ _ _ _ _ _ _ _ _ _ _ _ _ _ _ _ _ _ _ _ _ _ _ _ _ _ _ _ _ _ _ hui hcy
theorem x9j {t:Tab} {s:Itr} {ins:List Inp} {k:Nat} (hk:k < ins.length):z1s t (j3l t s (ins.take k)) ins[k]=j3l t s (ins.take (k+1)):=by
 unfold j3l;rw[tqS hk,List.foldl_append];rfl
theorem j3m {t:Tab} {s:Itr} (l:List Inp) (h:z7z t s=true):z7z t (j3l t s l)=true:=z1j.2 (j7b l s (z1j.1 h))
theorem ItO.put {w:World} {base g:Nat} {u:z1r} {x y a b:Value} {T:TypeId} (h:ItO w base u) (hg:Blk w g T #[x,y]) (h1:T≠58) (h2:T≠3):ItO ((w.setCell ⟨g,0,none⟩ a).setCell ⟨g,1,none⟩ b) base u:=
 ⟨(h.o1.set g 0 a T _ hg h1 nZ).set g 1 b T _ (hg.set 0 a) h1 nZ,(h.o2.set g 0 a T _ hg h2 nZ).set g 1 b T _ (hg.set 0 a) h2 nZ⟩
theorem x6i {w:World} {g:Nat} {T:TypeId} {x y:Value} (hg:Blk w g T #[x,y]) (a b:Value):Blk ((w.setCell ⟨g,0,none⟩ a).setCell ⟨g,1,none⟩ b) g T #[a,b]:=by
 have:=(hg.set 0 a).set 1 b;simpa using this
end Go.Proofs.YtpenlfedkacglaaGreatDoor
