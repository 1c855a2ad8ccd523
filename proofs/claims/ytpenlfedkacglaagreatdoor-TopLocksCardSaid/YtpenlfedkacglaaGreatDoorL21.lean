import Derived.Test.YtpenlfedkacglaaGreatDoorL20
set_option maxRecDepth 100000
set_option maxHeartbeats 40000000
set_option linter.all false
namespace Go.Proofs.YtpenlfedkacglaaGreatDoor
open Go.RowKit
attribute [local go_sem] z05 z07 z01 z02
attribute [-go_sem] run_equalIn_agg
def j01 (l:List Int) (occ:List Bool) (j:Nat):Prop:=(l.take j).all (fun n=>!z2t occ n)=true
theorem y9c {l:List Int} {occ:List Bool} {j:Nat} (h:j01 l occ j) (hj:j < l.length) (hx:z2t occ l[j]=false):j01 l occ (j+1):=by
 have h1:(l.take j).all (fun n=>!z2t occ n)=true:=h;unfold j01;rw[z7e hj,h1,hx];rfl
theorem occ_no {l:List Int} {occ:List Bool} {j:Nat} (hj:j < l.length) (hx:z2t occ l[j]=true):(l.all fun n=>!z2t occ n)=false:=y3b hj (by rw[hx];rfl)
theorem x4j {l:List Int} {occ:List Bool} {j:Nat} (h:j01 l occ j) (hj:¬j < l.length):(l.all fun n=>!z2t occ n)=true:=by
 have h1:(l.take j).all (fun n=>!z2t occ n)=true:=h
 rwa [tlL (by omega)] at h1
theorem y72 (v:z1w) (u:z1r) (i:z3n) (k:Nat) (w:World) (hr:TvR w v) (hs:y1j w u) (hi:y1d w i) (hS:y4p v.t) (hF:Fits v.t u.i) (hlt:k < v.t.rts.length):Calls Tryz.prog 64 #[.agg (z0t v),.agg (z1v u),.agg (z3t i),.int .i64 (k:Int)] w fun e w'=>e=.returned (.bool ((z1p (z0r v.t k) (z1d u.i k)).all fun n=>!z2t i.i.occ n))∧Below w.heap.size w w':=by
 obtain ⟨W2,hW2⟩:∃ W,W=((w.alloc (.cells (z0t v) 33)).alloc (.cells (z1v u) 41)).alloc (.cells (z3t i) 49):=⟨_,rfl⟩
 have hb2:Below w.heap.size w W2:=by rw[hW2];exact ((bQ.alloc nL _).alloc (by simp) _).alloc (by simp;omega) _
 have hx2:Blk W2 (w.heap.size+2) 49 (z3t i):=by rw[hW2];exact Blk.new _ _ _ _ (by simp)
 have HP:=hE (y0h v u k W2 (hr.now hb2) (hs.now hb2) hS hF hlt);have hpl:=y0i (z0r v.t k) (z1d u.i k);have hsec:=(hS _ (z3w hlt)).n3;clear hS hF hlt;go_enter Tryz.func64,Tryz.ntmps64
 go_wp2_with fail;rw[←hW2];clear hW2;refine HP.out.mono ?_;rintro e w3 ⟨A1,c1,rfl,ho,hq3⟩;have hb3:=z00 hb2 hb2.size hq3;have hxi:=hx2.now hq3;have hrd:=ho.rdn.2;clear HP hx2 hb2 hq3;obtain ⟨pl,hplE⟩:∃ p,z1p (z0r v.t k) (z1d u.i k)=p:=⟨_,rfl⟩
 have HPE:=hE hplE;rw[hplE] at hpl ho hrd ⊢;clear hplE;go_wp2_with fail
 go_loopw [16] (fun n wr=>∃ j:Nat,j≤pl.length∧n=.int .i64 j∧Below w3.heap.size w3 wr∧Hid (j01 pl i.i.occ j)) (fun n _=>pl.length - (intOf n).toNat)
 case atStart=>exact ⟨0,nZ,rfl,bQ,hE (by unfold j01;simp)⟩
 case round=>
  obtain ⟨j,hjl,rfl,hb,HJ⟩:=hrel;have hbb:=z00 hb3 hb3.size hb;by_cases hltj:j < pl.length
  ·have hji:(j:Int) < (pl.length:Int):=by omega
   obtain ⟨b,off,hA,lb,hoj,y0⟩:=(ho.now hb).rdn.2.elI hltj;have lbw:b < wr.heap.size:=lb.2;have HS:=hE (fun h=>y9c HJ.out hltj h);have HN:=hE (fun h=>occ_no (occ:=i.i.occ) hltj h);have HOC:=hE (z1q i pl[j] wr (hi.now hbb));have hxw:=hxi.now hb;have i0:=hxw.cell 0;have i1:=hxw.cell 1;have i2:=hxw.cell 2;have i3:=hxw.cell 3;have i4:=hxw.cell 4;have i5:=hxw.cell 5;have i6:=hxw.cell 6;have li:=hxw.lt;simp only[gqA,gqZ,gqS] at i0 i1 i2 i3 i4 i5 i6;generalize pl[j]=n at *;obtain ⟨rb,hrb⟩:∃ c,z2t i.i.occ n=c:=⟨_,rfl⟩
   rw[hrb] at HS HN HOC;clear hrb;rw[hA];clear hA lb hxw;go_wp2_with fail
   refine HOC.out.mono ?_;rintro e w7 ⟨rfl,hq7⟩;have hb7:=z00 hb hb.size hq7;have hbb7:=z00 hb3 hb3.size hb7;clear HOC hq7 hb hbb i0 i1 i2 i3 i4 i5 i6 li y0 lbw
   cases rb with
   | true=>
    have HX:=hE (HN.out rfl);go_wp2_with fail
    go_ret
    exact ⟨z0a (by rw[HPE.out];exact HX.out.symm),hbb7⟩
   | false=>
    have HX:=hE (HS.out rfl);go_wp2_with fail
    go_roundw
    case rel=>
     have hk1:j+1≤pl.length:=hltj;refine ⟨j+1,hk1,by go_num,hb7,?_⟩;exact HX
    case measure=>simp[intOf];omega
  ·have hji:¬(j:Int) < (pl.length:Int):=by omega
   have HX:=hE (x4j HJ.out hltj);go_wp2_with fail
   go_ret;exact ⟨z0a (by rw[HPE.out];exact HX.out.symm),hbb⟩
def j7r (t:Tab) (det:List Int) (l:List Stg) (j:Nat):Prop:=(l.take j).all (fun x=>decide (det[(plF t x.el).toNat]? = some x.pos))=true
theorem j3e {t:Tab} {i:Inp} {r:Rou} (h:((r.secs++r.osecs).all fun n=>!z2t i.occ n)=false):y64 t i r=false:=by unfold y64;rw[h];rfl
theorem j3d {t:Tab} {i:Inp} {r:Rou} (h:((r.secs++r.osecs).all fun n=>!z2t i.occ n)=true):y64 t i r=((z1t r).all fun x=>decide (i.det[(plF t x.el).toNat]? = some x.pos)):=by unfold y64;rw[h];rfl
theorem y2t (v:z1w) (i:z3n) (rv:z2v) (w:World) (hr:TvR w v) (hi:y1d w i) (hrv:RvR w (Lt w) rv) (hck:z4y v.t=0) (hm:rv.r∈v.t.rts) (hS:j4m rv.r):Calls Tryz.prog 65 #[.agg (z0t v),.agg (z3t i),.agg (z0e rv)] w fun e w'=>e=.returned (.bool (y64 v.t i.i rv.r))∧Below w.heap.size w w':=by
 obtain ⟨W2,hW2⟩:∃ W,W=(((w.alloc (.cells (z0t v) 33)).alloc (.cells (z3t i) 49)).alloc (.cells (z0e rv) 56)).alloc (.cells #[.slice rv.A3 rv.r.secs.length rv.c3,.slice rv.A6 rv.r.osecs.length rv.c6] 31):=⟨_,rfl⟩
 have hb2:Below w.heap.size w W2:=by rw[hW2];exact (((bQ.alloc nL _).alloc (by simp) _).alloc (by simp;omega) _).alloc (by simp;omega) _
 have hx0:Blk W2 w.heap.size 33 (z0t v):=by rw[hW2];exact (((Blk.new _ _ _ _ rfl).alloc _).alloc _).alloc _
 have hx1:Blk W2 (w.heap.size+1) 49 (z3t i):=by rw[hW2];exact ((Blk.new _ _ _ _ (by simp)).alloc _).alloc _
 have hx2:Blk W2 (w.heap.size+2) 56 (z0e rv):=by rw[hW2];exact (Blk.new _ _ _ _ (by simp)).alloc _
 have hx3:Blk W2 (w.heap.size+3) 31 #[.slice rv.A3 rv.r.secs.length rv.c3,.slice rv.A6 rv.r.osecs.length rv.c6]:=by rw[hW2];exact Blk.new _ _ _ _ (by simp)
 have hrv2:=hrv.now hb2;have HC:=hE (z8a [rv.r.secs,rv.r.osecs] _ 2 W2 (y9s hx3 hx3.lt hrv.o.n3 hrv.o.n6 hrv2.r3 hrv2.r6) (by simp) (by intro l hl;have:=hS.n3;have:=hS.n6;simp at hl;rcases hl with rfl | rfl <;> omega));have HPT:Hid (∀ x∈z1t rv.r,x.el∈v.t.pts):=hE fun x hx=>((z8l hck).stg _ hm x (z1o.1 hx)).1
 have HCK:=hE hck;have hsl:=y0x rv.r;have n2:=hS.n2;have n5:=hS.n5;have n7:=hS.n7;have n3:=hS.n3;have n6:=hS.n6;have HS:=hE hS;have hdl:=hi.n2.1;unfold maxLen at hdl;clear hx3 hrv2 hck hm hS;go_enter Tryz.func65,Tryz.ntmps65
 go_wp2_with fail;rw[←hW2];clear hW2;refine HC.out.mono ?_;rintro e w3 ⟨cv,rfl,hlow,hq3⟩;have hb3:=z00 hb2 hb2.size hq3;have ho:=z5e (fun _ _ _ _ _ _ h=>h:Flat cI) hlow;have hfl:[rv.r.secs,rv.r.osecs].flatten=rv.r.secs++rv.r.osecs:=by simp
 rw[hfl] at ho;obtain ⟨A1,c1,rfl⟩:=ho.form;have hal:(rv.r.secs++rv.r.osecs).length≤60000:=by rw[qL];omega
 have hbx:=aIq (hx0.now hq3) (aIq (hx1.now hq3) (hx2.now hq3));have HBX:=hE fun W' (h:Below w3.heap.size w3 W')=>aIq (hbx.1.now h) (aIq (hbx.2.1.now h) (hbx.2.2.now h))
 have HPO:=hE fun h=>j3e (t:=v.t) (i:=i.i) (r:=rv.r) h
 have HPD:=hE fun h=>j3d (t:=v.t) (i:=i.i) (r:=rv.r) h
 clear hlow hq3 hb2 HC hx0 hx1 hx2 hfl hbx;generalize rv.r.secs++rv.r.osecs=pl at *;go_wp2_with fail
 go_loopw [19] (fun n wr=>∃ j:Nat,j≤pl.length∧n=.int .i64 j∧Below w3.heap.size w3 wr∧Hid (j01 pl i.i.occ j)) (fun n _=>pl.length - (intOf n).toNat)
 case atStart=>exact ⟨0,nZ,rfl,bQ,hE (by unfold j01;simp)⟩
 case round=>
  obtain ⟨j,hjl,rfl,hb,HJ⟩:=hrel;have hbb:=z00 hb3 hb3.size hb;by_cases hltj:j < pl.length
  ·have hji:(j:Int) < (pl.length:Int):=by omega
   obtain ⟨b,off,hA,lb,hoj,y0⟩:=(ho.now hb).rdn.2.elI hltj;have lbw:b < wr.heap.size:=lb.2;have HS:=hE (fun h=>y9c HJ.out hltj h);have HN:=hE (fun h=>occ_no (occ:=i.i.occ) hltj h);have HOC:=hE (z1q i pl[j] wr (hi.now hbb));have hxw:=(HBX.out wr hb).2.1;have i0:=hxw.cell 0;have i1:=hxw.cell 1;have i2:=hxw.cell 2;have i3:=hxw.cell 3;have i4:=hxw.cell 4;have i5:=hxw.cell 5;have i6:=hxw.cell 6;have li:=hxw.lt;simp only[gqA,gqZ,gqS] at i0 i1 i2 i3 i4 i5 i6;generalize pl[j]=n at *;obtain ⟨rb,hrb⟩:∃ c,z2t i.i.occ n=c:=⟨_,rfl⟩
   rw[hrb] at HS HN HOC;clear hrb;subst hA;clear lb hxw;go_wp2_with fail
   refine HOC.out.mono ?_;rintro e w7 ⟨rfl,hq7⟩;have hb7:=z00 hb hb.size hq7;have hbb7:=z00 hb3 hb3.size hb7;clear HOC hq7 hb hbb i0 i1 i2 i3 i4 i5 i6 li y0 lbw
   cases rb with
   | true=>
    have HX:=hE (HPO.out (HN.out rfl));go_wp2_with fail
    go_ret
    exact ⟨z0a HX.out.symm,hbb7⟩
   | false=>
    have HX:=hE (HS.out rfl);go_wp2_with fail
    go_roundw
    case rel=>
     have hk1:j+1≤pl.length:=hltj;refine ⟨j+1,hk1,by go_num,hb7,?_⟩;exact HX
    case measure=>simp[intOf];omega
  ·have hji:¬(j:Int) < (pl.length:Int):=by omega
   have HPD2:=hE (HPD.out (x4j HJ.out hltj))
   rename World=>w4
   have hbx4:=HBX.out w4 hb;have HT:=hE (z3y rv w4 (hrv.now hbb) n2 n5 n7);have xr:=hbx4.2.2;have x0:=xr.cell 0;have x1:=xr.cell 1;have x2:=xr.cell 2;have x3:=xr.cell 3;have x4:=xr.cell 4;have x5:=xr.cell 5;have x6:=xr.cell 6;have x7:=xr.cell 7;have x8:=xr.cell 8;have x9:=xr.cell 9;have x10:=xr.cell 10;have x11:=xr.cell 11;have x12:=xr.cell 12;have x13:=xr.cell 13;have lx:=xr.lt;simp only[gqA,gqZ,gqS] at x0 x1 x2 x3 x4 x5 x6 x7 x8 x9 x10 x11 x12 x13;clear xr HPO HPD HJ;go_wp2_with fail
   refine HT.out.mono ?_;rintro e w5 ⟨A5,c5,rfl,ho5,hq5⟩;have hb5:=z00 hb hb.size hq5;have hbb5:=z00 hb3 hb3.size hb5;clear x0 x1 x2 x3 x4 x5 x6 x7 x8 x9 x10 x11 x12 x13 lx HT hq5 hbx4;have hsl2:(z1t rv.r).length≤90000:=by omega
   generalize z1t rv.r=st at *;go_wp2_with fail
   go_loopw [30] (fun n wr=>∃ j:Nat,j≤st.length∧n=.int .i64 j∧Below w5.heap.size w5 wr∧Hid (j7r v.t i.i.det st j)) (fun n _=>st.length - (intOf n).toNat)
   case atStart=>exact ⟨0,nZ,rfl,bQ,hE (by unfold j7r;simp)⟩
   case round=>
    rename World=>wz
    obtain ⟨j2,hjl2,rfl,hbz,HJ⟩:=hrel;have hb5z:=z00 hb5 hb5.size hbz;have hbbz:=z00 hb3 hb3.size hb5z;by_cases hlt2:j2 < st.length
    ·have hji2:(j2:Int) < (st.length:Int):=by omega
     obtain ⟨b,off,hA,lb,hoj,y0,y1⟩:=(ho5.now hbz).rdn.2.elG hlt2;have lbw:b < wz.heap.size:=lb.2;have HSJ:=hE (z7e (p:=fun x=>decide (i.i.det[(plF v.t x.el).toNat]? = some x.pos)) hlt2);have HNJ:=hE (y3b (p:=fun x=>decide (i.i.det[(plF v.t x.el).toNat]? = some x.pos)) hlt2);have hym:=HPT.out _ (uE hlt2);obtain ⟨m,hm,hm1,-⟩:=y4c HCK.out hym;obtain ⟨W8,hW8⟩:∃ W,W=wz.alloc (.cells #[.int .i64 st[j2].el,.int .i64 st[j2].pos] 78):=⟨_,rfl⟩
     have hbe8:Below wz.heap.size wz W8:=by rw[hW8];exact bQ.alloc nL _
     have hxy:Blk W8 wz.heap.size 78 #[.int .i64 st[j2].el,.int .i64 st[j2].pos]:=by rw[hW8];exact Blk.new _ _ _ _ rfl
     have hb8:=z00 hb5z hb5z.size hbe8;have hbb8:=z00 hb3 hb3.size hb8;have HIX:=hE (z4f v st[j2].el W8 (hr.now hbb8) hym);rw[hm] at HIX;have HMM:Hid ((plF v.t st[j2].el).toNat=m):=hE (by rw[hm];rfl);have hbx8:=HBX.out wz hb5z;have t0:=hbx8.1.cell 0;have t1:=hbx8.1.cell 1;have t2:=hbx8.1.cell 2;have t3:=hbx8.1.cell 3;have t4:=hbx8.1.cell 4;have lt:=hbx8.1.lt;simp only[gqA,gqZ,gqS] at t0 t1 t2 t3 t4;rw[hA];generalize st[j2]=y at *;clear hA hm hym hbx8 lb;go_wp2_with fail
     rw[←hW8];clear hW8;refine HIX.out.mono ?_;rintro e w9 ⟨rfl,hq9⟩;have hb9:=z00 hb8 hb8.size hq9;have hbb9:=z00 hb3 hb3.size hb9;have hbz9:=z00 hbz hbz.size (hbe8.trans (hq9.mono hbe8.size));have hxy9:=hxy.now hq9;have hbx9:=HBX.out w9 hb9;have i1:=hbx9.2.1.cell 1;have li:=hbx9.2.1.lt;have u1:=hxy9.cell 1;have lu:=hxy9.lt;simp only[gqA,gqZ,gqS] at i1 u1;clear HIX t0 t1 t2 t3 t4 lt hxy hq9 hb8 hbb8 hbe8 hbz hb5z hbbz y0 y1 hxy9 hbx9;by_cases hmd:m < i.i.det.length;case neg=>
      have hmi:(i.i.det.length:Int)≤(m:Int):=by omega
      have HX:Hid (y64 v.t i.i rv.r=false):=hE (by
       rw[HPD2.out];refine HNJ.out ?_;rw[HMM.out,List.getElem?_eq_none (by omega)];rfl)
      go_wp2_with fail
      (refine wp_region_quiet_lit (by kernel_rfl) (by kernel_rfl) ?_;(repeat (any_goals (first | go_big_quiet_step (fail) | quiet_step (fail) | (refine wpQuiet_step (fun K hK=>?_);go_simp;split <;> (refine hK _ ?_;clear hK K)))));all_goals (refine wpQuiet_nil ?_;intro _ hw';obtain ⟨nq,hw''⟩:=hw';subst hw''))
      all_goals (go_wp2_with fail)
      go_ret;exact ⟨z0a HX.out.symm,Below.drewN hbb9 _⟩
     case pos=>
     have hmi:(m:Int) < (i.i.det.length:Int):=by omega
     have hmi2:¬(i.i.det.length:Int)≤(m:Int):=by omega
     obtain ⟨bd,offd,hAd,lbd,hod,zd⟩:=(hi.now hbb9).r2.elI hmd;rw[hAd] at i1;have HD:Hid (i.i.det[m]? = some i.i.det[m]):=hE (gqE hmd);have lbd':bd < w9.heap.size:=lbd;clear hAd lbd;generalize i.i.det[m]=d at *;by_cases hd:d=y.pos
     ·have t1:(d != y.pos)=false:=by rw[hd];exact bne_self_eq_false _
      have HX:Hid (j7r v.t i.i.det st (j2+1)):=hE (by
       have h1:(st.take j2).all (fun x=>decide (i.i.det[(plF v.t x.el).toNat]? = some x.pos))=true:=HJ.out;unfold j7r;rw[HSJ.out,h1,HMM.out,HD.out,hd];simp)
      clear hd;go_wp2_with fail
      (refine wp_region_quiet_lit (by kernel_rfl) (by kernel_rfl) ?_;(repeat (any_goals (first | go_big_quiet_step (fail) | quiet_step (fail) | (refine wpQuiet_step (fun K hK=>?_);go_simp;split <;> (refine hK _ ?_;clear hK K)))));all_goals (refine wpQuiet_nil ?_;intro _ hw';obtain ⟨nq,hw''⟩:=hw';subst hw''))
      all_goals (go_wp2_with fail)
      go_roundw
      case rel=>
       have hk1:j2+1≤st.length:=hlt2;refine ⟨j2+1,hk1,by go_num,Below.drewN hbz9 _,?_⟩;exact HX
      case measure=>simp[intOf];omega
     ·have t1:(d != y.pos)=true:=bne_iff_ne.2 hd;have HX:Hid (y64 v.t i.i rv.r=false):=hE (by
       rw[HPD2.out];refine HNJ.out ?_;rw[HMM.out,HD.out];exact dFf fun h=>hd (sJ h))
      clear hd;go_wp2_with fail
      (refine wp_region_quiet_lit (by kernel_rfl) (by kernel_rfl) ?_;(repeat (any_goals (first | go_big_quiet_step (fail) | quiet_step (fail) | (refine wpQuiet_step (fun K hK=>?_);go_simp;split <;> (refine hK _ ?_;clear hK K)))));all_goals (refine wpQuiet_nil ?_;intro _ hw';obtain ⟨nq,hw''⟩:=hw';subst hw''))
      all_goals (go_wp2_with fail)
      go_ret;exact ⟨z0a HX.out.symm,Below.drewN hbb9 _⟩
    ·have hji2:¬(j2:Int) < (st.length:Int):=by omega
     have HX:Hid (y64 v.t i.i rv.r=true):=hE (by
      have h1:(st.take j2).all (fun x=>decide (i.i.det[(plF v.t x.el).toNat]? = some x.pos))=true:=HJ.out;rw[tlL (by omega)] at h1;rw[HPD2.out,h1])
     go_wp2_with fail;go_ret
     exact ⟨z0a HX.out.symm,hbbz⟩
def rsV (x:RSt):Value:=.agg #[.int .i64 x.st,.int .i64 x.rel,.int .i64 x.tim]
theorem x7o {l:List Int} (h:0 < l.length):l.headD 0=l[0]:=by cases l with | nil=>simp at h | cons a t=>rfl
theorem y2y (v:z1w) (i:z3n) (rv:z2v) (o:RSt) (cla pas can emp:Bool) (w:World) (hr:TvR w v) (hi:y1d w i) (hrv:RvR w (Lt w) rv) (hck:z4y v.t=0) (hm:rv.r∈v.t.rts) (hS:j4m rv.r):Calls Tryz.prog 66 #[.agg #[.slice v.A1 v.t.rts.length v.c1,.slice v.A2 v.t.pts.length v.c2,.slice v.A3 v.t.homes.length v.c3,.int .i64 v.t.nsec,.int .i64 v.t.nsig,.slice i.A1 i.i.occ.length i.c1,.slice i.A2 i.i.det.length i.c2,.slice i.A3 i.i.clo.length i.c3,.slice i.A4 i.i.cla.length i.c4,.slice i.A5 i.i.pas.length i.c5,.slice i.A6 i.i.calls.length i.c6,.slice i.A7 i.i.cans.length i.c7,.string (bs rv.r.name),.int .i64 rv.r.ent,.int .i64 rv.r.ext,.slice rv.A1 rv.r.path.length rv.c1,.slice rv.A2 rv.r.pts.length rv.c2,.slice rv.A3 rv.r.secs.length rv.c3,.int .i64 rv.r.app,.int .i64 rv.r.len,.slice rv.A4 rv.r.over.length rv.c4,.slice rv.A5 rv.r.opts.length rv.c5,.slice rv.A6 rv.r.osecs.length rv.c6,.slice rv.A7 rv.r.flk.length rv.c7,.slice rv.A8 rv.r.grd.length rv.c8,.slice rv.A9 rv.r.gap.length rv.c9,.int .i64 o.st,.int .i64 o.rel,.int .i64 o.tim,.bool cla,.bool pas,.bool can,.bool emp]] w fun e w'=>e=.returned (rsV (y2c v.t i.i rv.r cla can))∧Below w.heap.size w w':=by
 obtain ⟨W2,hW2⟩:∃ W,W=(w.alloc (.cells #[.slice v.A1 v.t.rts.length v.c1,.slice v.A2 v.t.pts.length v.c2,.slice v.A3 v.t.homes.length v.c3,.int .i64 v.t.nsec,.int .i64 v.t.nsig,.slice i.A1 i.i.occ.length i.c1,.slice i.A2 i.i.det.length i.c2,.slice i.A3 i.i.clo.length i.c3,.slice i.A4 i.i.cla.length i.c4,.slice i.A5 i.i.pas.length i.c5,.slice i.A6 i.i.calls.length i.c6,.slice i.A7 i.i.cans.length i.c7,.string (bs rv.r.name),.int .i64 rv.r.ent,.int .i64 rv.r.ext,.slice rv.A1 rv.r.path.length rv.c1,.slice rv.A2 rv.r.pts.length rv.c2,.slice rv.A3 rv.r.secs.length rv.c3,.int .i64 rv.r.app,.int .i64 rv.r.len,.slice rv.A4 rv.r.over.length rv.c4,.slice rv.A5 rv.r.opts.length rv.c5,.slice rv.A6 rv.r.osecs.length rv.c6,.slice rv.A7 rv.r.flk.length rv.c7,.slice rv.A8 rv.r.grd.length rv.c8,.slice rv.A9 rv.r.gap.length rv.c9,.int .i64 o.st,.int .i64 o.rel,.int .i64 o.tim,.bool cla,.bool pas,.bool can,.bool emp] 125)).alloc (.cells #[.int .i64 0,.int .i64 0,.int .i64 0] 58):=⟨_,rfl⟩
 have hb2:Below w.heap.size w W2:=by rw[hW2];exact (bQ.alloc nL _).alloc (by simp) _
 have hv:Blk W2 w.heap.size 125 #[.slice v.A1 v.t.rts.length v.c1,.slice v.A2 v.t.pts.length v.c2,.slice v.A3 v.t.homes.length v.c3,.int .i64 v.t.nsec,.int .i64 v.t.nsig,.slice i.A1 i.i.occ.length i.c1,.slice i.A2 i.i.det.length i.c2,.slice i.A3 i.i.clo.length i.c3,.slice i.A4 i.i.cla.length i.c4,.slice i.A5 i.i.pas.length i.c5,.slice i.A6 i.i.calls.length i.c6,.slice i.A7 i.i.cans.length i.c7,.string (bs rv.r.name),.int .i64 rv.r.ent,.int .i64 rv.r.ext,.slice rv.A1 rv.r.path.length rv.c1,.slice rv.A2 rv.r.pts.length rv.c2,.slice rv.A3 rv.r.secs.length rv.c3,.int .i64 rv.r.app,.int .i64 rv.r.len,.slice rv.A4 rv.r.over.length rv.c4,.slice rv.A5 rv.r.opts.length rv.c5,.slice rv.A6 rv.r.osecs.length rv.c6,.slice rv.A7 rv.r.flk.length rv.c7,.slice rv.A8 rv.r.grd.length rv.c8,.slice rv.A9 rv.r.gap.length rv.c9,.int .i64 o.st,.int .i64 o.rel,.int .i64 o.tim,.bool cla,.bool pas,.bool can,.bool emp]:=by rw[hW2];exact (Blk.new _ _ _ _ rfl).alloc _
 have hz:Blk W2 (w.heap.size+1) 58 #[.int .i64 0,.int .i64 0,.int .i64 0]:=by rw[hW2];exact Blk.new _ _ _ _ (by simp)
 have hn3:=hrv.o.n3;have hc3:=hn3.2;have hm3:=hn3.1;unfold maxLen at hm3;clear hn3;have hpos:0 < rv.r.secs.length:=List.length_pos_iff.2 ((z8l hck).sec _ hm).2.2;obtain ⟨b3,off3,hA3,lb3,ho3,q0⟩:=(hrv.now hb2).r3.elI hpos;rw[Nat.add_zero] at q0;have HA3:=hE hA3;have hki:(0:Int) < (rv.r.secs.length:Int):=by omega
 have HX0:Hid (y2c v.t i.i rv.r cla can=if z2t i.i.occ rv.r.secs[0]=true then ⟨3,0,0⟩ else if (can && (!cla && !z2t i.i.occ rv.r.app))=true then zS else if (can || !y64 v.t i.i rv.r)=true then ⟨4,0,0⟩ else ⟨2,0,0⟩):=hE (by unfold y2c;rw[x7o hpos]);have HO1:=hE fun W' (h:Below W2.heap.size W2 W')=>z1q i rv.r.secs[0] W' (hi.now (z00 hb2 hb2.size h))
 have HO2:=hE fun W' (h:Below W2.heap.size W2 W')=>z1q i rv.r.app W' (hi.now (z00 hb2 hb2.size h))
 have HPR:=hE fun W' (h:Below W2.heap.size W2 W')=>y2t v i rv W' (hr.now (z00 hb2 hb2.size h)) (hi.now (z00 hb2 hb2.size h)) (hrv.now (z00 hb2 hb2.size h)) hck hm hS
 unfold z0e at HPR;rw[hA3] at HPR;generalize rv.r.secs[0]=s0 at *;obtain ⟨d0,hd0⟩:∃ c,z2t i.i.occ s0=c:=⟨_,rfl⟩
 obtain ⟨d1,hd1⟩:∃ c,z2t i.i.occ rv.r.app=c:=⟨_,rfl⟩
 obtain ⟨d2,hd2⟩:∃ c,y64 v.t i.i rv.r=c:=⟨_,rfl⟩
 rw[hd0,hd1,hd2] at HX0;rw[hd0] at HO1;rw[hd1] at HO2;rw[hd2] at HPR;have lb3':b3 < W2.heap.size:=lb3;have hvl:=hv.lt;have HSS:Hid (∀ W,Below W2.heap.size W2 W→(fun w'=>w'.cell? ⟨w.heap.size,5,none⟩=some (.slice i.A1 i.i.occ.length i.c1)∧w'.cell? ⟨w.heap.size,6,none⟩=some (.slice i.A2 i.i.det.length i.c2)∧w'.cell? ⟨w.heap.size,7,none⟩=some (.slice i.A3 i.i.clo.length i.c3)∧w'.cell? ⟨w.heap.size,8,none⟩=some (.slice i.A4 i.i.cla.length i.c4)∧w'.cell? ⟨w.heap.size,9,none⟩=some (.slice i.A5 i.i.pas.length i.c5)∧w'.cell? ⟨w.heap.size,10,none⟩=some (.slice i.A6 i.i.calls.length i.c6)∧w'.cell? ⟨w.heap.size,11,none⟩=some (.slice i.A7 i.i.cans.length i.c7)∧w'.cell? ⟨w.heap.size,17,none⟩=some (.slice (some ⟨b3,off3,none⟩) rv.r.secs.length rv.c3)∧w'.cell? ⟨b3,off3,none⟩=some (.int .i64 s0)∧Below W2.heap.size W2 w') W):=hE fun W h=>⟨(h.cell (p:=⟨w.heap.size,5,none⟩) hvl).trans (hv.cell 5),(h.cell (p:=⟨w.heap.size,6,none⟩) hvl).trans (hv.cell 6),(h.cell (p:=⟨w.heap.size,7,none⟩) hvl).trans (hv.cell 7),(h.cell (p:=⟨w.heap.size,8,none⟩) hvl).trans (hv.cell 8),(h.cell (p:=⟨w.heap.size,9,none⟩) hvl).trans (hv.cell 9),(h.cell (p:=⟨w.heap.size,10,none⟩) hvl).trans (hv.cell 10),(h.cell (p:=⟨w.heap.size,11,none⟩) hvl).trans (hv.cell 11),(h.cell (p:=⟨w.heap.size,17,none⟩) hvl).trans ((hv.cell 17).trans (by rw[HA3.out];rfl)),(h.cell (p:=⟨b3,off3,none⟩) lb3').trans q0,h⟩
 clear hA3 hd0 hd1 hd2 hck hm hS lb3 ho3;go_enter Tryz.func66,Tryz.ntmps66
 go_wp2_with fail;rw[←hW2];clear hW2;refine rgS 9 HSS fun hHeld=>?_
 refine tkM 7 [0,1,2,3,4,5,6] ?_;refine rd1 7 rfl fun K hK=>?_
 go_simp;go_at_call 110
 refine (HO1.out _ bQ.drew).mono ?_;rintro e w3 ⟨rfl,hq3⟩;have hq3':Below W2.heap.size W2 w3:=bQ.drew.trans hq3;go_wp2_with fail
 refine hK.out _ _ (HSS.out _ hq3') (fun hHeld=>?_);clear hK K;try simp only[Act.put,lsa,lsz,lss]
 refine tkM 1 [8] ?_;refine wdn ?_;have hb3:=z00 hb2 hb2.size hq3';have hv3:=hv.now hq3';have hz3:=hz.now hq3';clear HSS HO1 hq3 hHeld q0 lb3' hvl
 cases d0 with
 | true=>
  have HX:Hid (⟨3,0,0⟩=y2c v.t i.i rv.r cla can):=hE (by rw[HX0.out];rfl);have r0:=hz3.cell 0;have r1:=hz3.cell 1;have r2:=hz3.cell 2;have rf:=hz3.free;have rl:=hz3.lt;simp only[gqA,gqZ,gqS] at r0 r1 r2;have HF:=hE (aIq (((hz3.set 0 (.int .i64 3)).set 1 (.int .i64 0)).set 2 (.int .i64 0)) (((hb3.setCell (p:=⟨w.heap.size+1,0,none⟩) (by simp) (.int .i64 3)).setCell (p:=⟨w.heap.size+1,1,none⟩) (by simp) (.int .i64 0)).setCell (p:=⟨w.heap.size+1,2,none⟩) (by simp) (.int .i64 0)));go_wp2_with fail
  obtain ⟨p,hbf⟩:=HF.out;have p0:=p.cell 0;have p1:=p.cell 1;have p2:=p.cell 2;have pl:=p.lt;simp only[gqA,gqZ,gqS,lsz,lss,lsa] at p0 p1 p2
  exact bodyPost_ret (v:=.agg #[.int .i64 3,.int .i64 0,.int .i64 0]) (by simp[results,Tryz.results66,go_sem,p0,p1,p2,pl]) rfl ⟨by rw[←HX.out];rfl,hbf⟩
 | false=>
  have x29:=hv3.cell 29;have x31:=hv3.cell 31;have xl:=hv3.lt;simp only[gqA,gqZ,gqS] at x29 x31
  cases can with
  | false=>
   have y0:=hv3.cell 0;have y1:=hv3.cell 1;have y2:=hv3.cell 2;have y3:=hv3.cell 3;have y4:=hv3.cell 4;have y5:=hv3.cell 5;have y6:=hv3.cell 6;have y7:=hv3.cell 7;have y8:=hv3.cell 8;have y9:=hv3.cell 9;have y10:=hv3.cell 10;have y11:=hv3.cell 11;have y12:=hv3.cell 12;have y13:=hv3.cell 13;have y14:=hv3.cell 14;have y15:=hv3.cell 15;have y16:=hv3.cell 16;have y17:=(hv3.cell 17).trans (by rw[HA3.out];rfl:_=some (Value.slice (some ⟨b3,off3,none⟩) rv.r.secs.length rv.c3));have y18:=hv3.cell 18;have y19:=hv3.cell 19;have y20:=hv3.cell 20;have y21:=hv3.cell 21;have y22:=hv3.cell 22;have y23:=hv3.cell 23;have y24:=hv3.cell 24;have y25:=hv3.cell 25;have y26:=hv3.cell 26;have y27:=hv3.cell 27;have y28:=hv3.cell 28;have y29:=hv3.cell 29;have y30:=hv3.cell 30;have y31:=hv3.cell 31;have yl:=hv3.lt;simp only[gqA,gqZ,gqS] at y0 y1 y2 y3 y4 y5 y6 y7 y8 y9 y10 y11 y12 y13 y14 y15 y16 y18 y19 y20 y21 y22 y23 y24 y25 y26 y27 y28 y29 y30 y31;go_wp2_with fail
   refine (HPR.out _ hq3').mono ?_;rintro e w8 ⟨rfl,hq8⟩;have hb8:=z00 hb3 hb3.size hq8;have hz8:=hz3.now hq8;clear y0 y1 y2 y3 y4 y5 y6 y7 y8 y9 y10 y11 y12 y13 y14 y15 y16 y17 y18 y19 y20 y21 y22 y23 y24 y25 y26 y27 y28 y29 y30 y31
   cases d2 with
   | true=>
    have HX:Hid (⟨2,0,0⟩=y2c v.t i.i rv.r cla false):=hE (by rw[HX0.out];rfl);have r0:=hz8.cell 0;have r1:=hz8.cell 1;have r2:=hz8.cell 2;have rf:=hz8.free;have rl:=hz8.lt;simp only[gqA,gqZ,gqS] at r0 r1 r2;have HF:=hE (aIq (((hz8.set 0 (.int .i64 2)).set 1 (.int .i64 0)).set 2 (.int .i64 0)) (((hb8.setCell (p:=⟨w.heap.size+1,0,none⟩) (by simp) (.int .i64 2)).setCell (p:=⟨w.heap.size+1,1,none⟩) (by simp) (.int .i64 0)).setCell (p:=⟨w.heap.size+1,2,none⟩) (by simp) (.int .i64 0)));go_wp2_with fail
    obtain ⟨p,hbf⟩:=HF.out;have p0:=p.cell 0;have p1:=p.cell 1;have p2:=p.cell 2;have pl:=p.lt;simp only[gqA,gqZ,gqS,lsz,lss,lsa] at p0 p1 p2
    exact bodyPost_ret (v:=.agg #[.int .i64 2,.int .i64 0,.int .i64 0]) (by simp[results,Tryz.results66,go_sem,p0,p1,p2,pl]) rfl ⟨by rw[←HX.out];rfl,hbf⟩
   | false=>
    have HX:Hid (⟨4,0,0⟩=y2c v.t i.i rv.r cla false):=hE (by rw[HX0.out];rfl);have r0:=hz8.cell 0;have r1:=hz8.cell 1;have r2:=hz8.cell 2;have rf:=hz8.free;have rl:=hz8.lt;simp only[gqA,gqZ,gqS] at r0 r1 r2;have HF:=hE (aIq (((hz8.set 0 (.int .i64 4)).set 1 (.int .i64 0)).set 2 (.int .i64 0)) (((hb8.setCell (p:=⟨w.heap.size+1,0,none⟩) (by simp) (.int .i64 4)).setCell (p:=⟨w.heap.size+1,1,none⟩) (by simp) (.int .i64 0)).setCell (p:=⟨w.heap.size+1,2,none⟩) (by simp) (.int .i64 0)));go_wp2_with fail
    obtain ⟨p,hbf⟩:=HF.out;have p0:=p.cell 0;have p1:=p.cell 1;have p2:=p.cell 2;have pl:=p.lt;simp only[gqA,gqZ,gqS,lsz,lss,lsa] at p0 p1 p2
    exact bodyPost_ret (v:=.agg #[.int .i64 4,.int .i64 0,.int .i64 0]) (by simp[results,Tryz.results66,go_sem,p0,p1,p2,pl]) rfl ⟨by rw[←HX.out];rfl,hbf⟩
  | true=>
   cases cla with
   | true=>
    have HX:Hid (⟨4,0,0⟩=y2c v.t i.i rv.r true true):=hE (by rw[HX0.out];rfl);have r0:=hz3.cell 0;have r1:=hz3.cell 1;have r2:=hz3.cell 2;have rf:=hz3.free;have rl:=hz3.lt;simp only[gqA,gqZ,gqS] at r0 r1 r2;have HF:=hE (aIq (((hz3.set 0 (.int .i64 4)).set 1 (.int .i64 0)).set 2 (.int .i64 0)) (((hb3.setCell (p:=⟨w.heap.size+1,0,none⟩) (by simp) (.int .i64 4)).setCell (p:=⟨w.heap.size+1,1,none⟩) (by simp) (.int .i64 0)).setCell (p:=⟨w.heap.size+1,2,none⟩) (by simp) (.int .i64 0)));go_wp2_with fail
    obtain ⟨p,hbf⟩:=HF.out;have p0:=p.cell 0;have p1:=p.cell 1;have p2:=p.cell 2;have pl:=p.lt;simp only[gqA,gqZ,gqS,lsz,lss,lsa] at p0 p1 p2
    exact bodyPost_ret (v:=.agg #[.int .i64 4,.int .i64 0,.int .i64 0]) (by simp[results,Tryz.results66,go_sem,p0,p1,p2,pl]) rfl ⟨by rw[←HX.out];rfl,hbf⟩
   | false=>
    have y5:=hv3.cell 5;have y6:=hv3.cell 6;have y7:=hv3.cell 7;have y8:=hv3.cell 8;have y9:=hv3.cell 9;have y10:=hv3.cell 10;have y11:=hv3.cell 11;have y18:=hv3.cell 18;have yl:=hv3.lt;simp only[gqA,gqZ,gqS] at y5 y6 y7 y8 y9 y10 y11 y18;go_wp2_with fail
    refine (HO2.out _ hq3').mono ?_;rintro e w8 ⟨rfl,hq8⟩;have hb8:=z00 hb3 hb3.size hq8;have hv8:=hv3.now hq8;have hz8:=hz3.now hq8;clear y5 y6 y7 y8 y9 y10 y11 y18 yl
    cases d1 with
    | false=>
     have HX:Hid (zS=y2c v.t i.i rv.r false true):=hE (by rw[HX0.out];rfl);have r0:=hz8.cell 0;have r1:=hz8.cell 1;have r2:=hz8.cell 2;have rf:=hz8.free;have rl:=hz8.lt;simp only[gqA,gqZ,gqS] at r0 r1 r2;have HF:=hE (aIq (((hz8.set 0 (.int .i64 0)).set 1 (.int .i64 0)).set 2 (.int .i64 0)) (((hb8.setCell (p:=⟨w.heap.size+1,0,none⟩) (by simp) (.int .i64 0)).setCell (p:=⟨w.heap.size+1,1,none⟩) (by simp) (.int .i64 0)).setCell (p:=⟨w.heap.size+1,2,none⟩) (by simp) (.int .i64 0)));go_wp2_with fail
     obtain ⟨p,hbf⟩:=HF.out;have p0:=p.cell 0;have p1:=p.cell 1;have p2:=p.cell 2;have pl:=p.lt;simp only[gqA,gqZ,gqS,lsz,lss,lsa] at p0 p1 p2
     exact bodyPost_ret (v:=.agg #[.int .i64 0,.int .i64 0,.int .i64 0]) (by simp[results,Tryz.results66,go_sem,p0,p1,p2,pl]) rfl ⟨by rw[←HX.out];rfl,hbf⟩
    | true=>
     have z31:=hv8.cell 31;have zl:=hv8.lt;simp only[gqA,gqZ,gqS] at z31;have HX:Hid (⟨4,0,0⟩=y2c v.t i.i rv.r false true):=hE (by rw[HX0.out];rfl);have r0:=hz8.cell 0;have r1:=hz8.cell 1;have r2:=hz8.cell 2;have rf:=hz8.free;have rl:=hz8.lt;simp only[gqA,gqZ,gqS] at r0 r1 r2;have HF:=hE (aIq (((hz8.set 0 (.int .i64 4)).set 1 (.int .i64 0)).set 2 (.int .i64 0)) (((hb8.setCell (p:=⟨w.heap.size+1,0,none⟩) (by simp) (.int .i64 4)).setCell (p:=⟨w.heap.size+1,1,none⟩) (by simp) (.int .i64 0)).setCell (p:=⟨w.heap.size+1,2,none⟩) (by simp) (.int .i64 0)));go_wp2_with fail
     obtain ⟨p,hbf⟩:=HF.out;have p0:=p.cell 0;have p1:=p.cell 1;have p2:=p.cell 2;have pl:=p.lt;simp only[gqA,gqZ,gqS,lsz,lss,lsa] at p0 p1 p2;exact bodyPost_ret (v:=.agg #[.int .i64 4,.int .i64 0,.int .i64 0]) (by simp[results,Tryz.results66,go_sem,p0,p1,p2,pl]) rfl ⟨by rw[←HX.out];rfl,hbf⟩
theorem x5y (v:z1w) (i:z3n) (rv:z2v) (o:RSt) (cla pas can emp:Bool) (w:World) (hr:TvR w v) (hi:y1d w i) (hrv:RvR w (Lt w) rv) (hrel:∃ k:Nat,o.rel=k∧k < rv.r.secs.length) (htim:0≤o.tim∧o.tim < 12):Calls Tryz.prog 68 #[.agg #[.slice v.A1 v.t.rts.length v.c1,.slice v.A2 v.t.pts.length v.c2,.slice v.A3 v.t.homes.length v.c3,.int .i64 v.t.nsec,.int .i64 v.t.nsig,.slice i.A1 i.i.occ.length i.c1,.slice i.A2 i.i.det.length i.c2,.slice i.A3 i.i.clo.length i.c3,.slice i.A4 i.i.cla.length i.c4,.slice i.A5 i.i.pas.length i.c5,.slice i.A6 i.i.calls.length i.c6,.slice i.A7 i.i.cans.length i.c7,.string (bs rv.r.name),.int .i64 rv.r.ent,.int .i64 rv.r.ext,.slice rv.A1 rv.r.path.length rv.c1,.slice rv.A2 rv.r.pts.length rv.c2,.slice rv.A3 rv.r.secs.length rv.c3,.int .i64 rv.r.app,.int .i64 rv.r.len,.slice rv.A4 rv.r.over.length rv.c4,.slice rv.A5 rv.r.opts.length rv.c5,.slice rv.A6 rv.r.osecs.length rv.c6,.slice rv.A7 rv.r.flk.length rv.c7,.slice rv.A8 rv.r.grd.length rv.c8,.slice rv.A9 rv.r.gap.length rv.c9,.int .i64 o.st,.int .i64 o.rel,.int .i64 o.tim,.bool cla,.bool pas,.bool can,.bool emp]] w fun e w'=>e=.returned (rsV (x0q i.i rv.r o cla emp))∧Below w.heap.size w w':=by
 obtain ⟨W2,hW2⟩:∃ W,W=(w.alloc (.cells #[.slice v.A1 v.t.rts.length v.c1,.slice v.A2 v.t.pts.length v.c2,.slice v.A3 v.t.homes.length v.c3,.int .i64 v.t.nsec,.int .i64 v.t.nsig,.slice i.A1 i.i.occ.length i.c1,.slice i.A2 i.i.det.length i.c2,.slice i.A3 i.i.clo.length i.c3,.slice i.A4 i.i.cla.length i.c4,.slice i.A5 i.i.pas.length i.c5,.slice i.A6 i.i.calls.length i.c6,.slice i.A7 i.i.cans.length i.c7,.string (bs rv.r.name),.int .i64 rv.r.ent,.int .i64 rv.r.ext,.slice rv.A1 rv.r.path.length rv.c1,.slice rv.A2 rv.r.pts.length rv.c2,.slice rv.A3 rv.r.secs.length rv.c3,.int .i64 rv.r.app,.int .i64 rv.r.len,.slice rv.A4 rv.r.over.length rv.c4,.slice rv.A5 rv.r.opts.length rv.c5,.slice rv.A6 rv.r.osecs.length rv.c6,.slice rv.A7 rv.r.flk.length rv.c7,.slice rv.A8 rv.r.grd.length rv.c8,.slice rv.A9 rv.r.gap.length rv.c9,.int .i64 o.st,.int .i64 o.rel,.int .i64 o.tim,.bool cla,.bool pas,.bool can,.bool emp] 125)).alloc (.cells #[.int .i64 0,.int .i64 0,.int .i64 0] 58):=⟨_,rfl⟩
 have hb2:Below w.heap.size w W2:=by rw[hW2];exact (bQ.alloc nL _).alloc (by simp) _
 have hv:Blk W2 w.heap.size 125 #[.slice v.A1 v.t.rts.length v.c1,.slice v.A2 v.t.pts.length v.c2,.slice v.A3 v.t.homes.length v.c3,.int .i64 v.t.nsec,.int .i64 v.t.nsig,.slice i.A1 i.i.occ.length i.c1,.slice i.A2 i.i.det.length i.c2,.slice i.A3 i.i.clo.length i.c3,.slice i.A4 i.i.cla.length i.c4,.slice i.A5 i.i.pas.length i.c5,.slice i.A6 i.i.calls.length i.c6,.slice i.A7 i.i.cans.length i.c7,.string (bs rv.r.name),.int .i64 rv.r.ent,.int .i64 rv.r.ext,.slice rv.A1 rv.r.path.length rv.c1,.slice rv.A2 rv.r.pts.length rv.c2,.slice rv.A3 rv.r.secs.length rv.c3,.int .i64 rv.r.app,.int .i64 rv.r.len,.slice rv.A4 rv.r.over.length rv.c4,.slice rv.A5 rv.r.opts.length rv.c5,.slice rv.A6 rv.r.osecs.length rv.c6,.slice rv.A7 rv.r.flk.length rv.c7,.slice rv.A8 rv.r.grd.length rv.c8,.slice rv.A9 rv.r.gap.length rv.c9,.int .i64 o.st,.int .i64 o.rel,.int .i64 o.tim,.bool cla,.bool pas,.bool can,.bool emp]:=by rw[hW2];exact (Blk.new _ _ _ _ rfl).alloc _
 have hz:Blk W2 (w.heap.size+1) 58 #[.int .i64 0,.int .i64 0,.int .i64 0]:=by rw[hW2];exact Blk.new _ _ _ _ (by simp)
 have hn3:=hrv.o.n3;have hc3:=hn3.2;have hm3:=hn3.1;unfold maxLen at hm3;clear hn3;obtain ⟨k,hk,hlt⟩:=hrel;obtain ⟨b3,off3,hA3,lb3,ho3,q0⟩:=(hrv.now hb2).r3.elI hlt;have HA3:=hE hA3;have hki:(k:Int) < (rv.r.secs.length:Int):=by omega
 obtain ⟨st,rel,tim⟩:=o;dsimp only at hk htim hv hW2 ⊢;subst hk;have hwt:IntKind.i64.wrap (tim+1)=tim+1:=IntWalk.i64_in _ (by omega);have HX0:Hid (x0q i.i rv.r ⟨st,(k:Int),tim⟩ cla emp=if z2t i.i.occ rv.r.secs[k]=true then ⟨3,k,0⟩ else if (cla || !emp)=true then ⟨4,k,0⟩ else if tim+1=12 then zS else ⟨4,k,tim+1⟩):=hE (by unfold x0q;simp[List.getD,hlt]);have HO1:=hE fun W' (h:Below W2.heap.size W2 W')=>z1q i rv.r.secs[k] W' (hi.now (z00 hb2 hb2.size h))
 generalize rv.r.secs[k]=s0 at *;obtain ⟨d0,hd0⟩:∃ c,z2t i.i.occ s0=c:=⟨_,rfl⟩
 rw[hd0] at HX0 HO1;have lb3':b3 < W2.heap.size:=lb3;have hvl:=hv.lt;have v27:=hv.cell 27;simp only[gqA,gqZ,gqS] at v27;have HSS:Hid (∀ W,Below W2.heap.size W2 W→(fun w'=>w'.cell? ⟨w.heap.size,5,none⟩=some (.slice i.A1 i.i.occ.length i.c1)∧w'.cell? ⟨w.heap.size,6,none⟩=some (.slice i.A2 i.i.det.length i.c2)∧w'.cell? ⟨w.heap.size,7,none⟩=some (.slice i.A3 i.i.clo.length i.c3)∧w'.cell? ⟨w.heap.size,8,none⟩=some (.slice i.A4 i.i.cla.length i.c4)∧w'.cell? ⟨w.heap.size,9,none⟩=some (.slice i.A5 i.i.pas.length i.c5)∧w'.cell? ⟨w.heap.size,10,none⟩=some (.slice i.A6 i.i.calls.length i.c6)∧w'.cell? ⟨w.heap.size,11,none⟩=some (.slice i.A7 i.i.cans.length i.c7)∧w'.cell? ⟨w.heap.size,17,none⟩=some (.slice (some ⟨b3,off3,none⟩) rv.r.secs.length rv.c3)∧w'.cell? ⟨b3,off3+k,none⟩=some (.int .i64 s0)∧Below W2.heap.size W2 w') W):=hE fun W h=>⟨(h.cell (p:=⟨w.heap.size,5,none⟩) hvl).trans (hv.cell 5),(h.cell (p:=⟨w.heap.size,6,none⟩) hvl).trans (hv.cell 6),(h.cell (p:=⟨w.heap.size,7,none⟩) hvl).trans (hv.cell 7),(h.cell (p:=⟨w.heap.size,8,none⟩) hvl).trans (hv.cell 8),(h.cell (p:=⟨w.heap.size,9,none⟩) hvl).trans (hv.cell 9),(h.cell (p:=⟨w.heap.size,10,none⟩) hvl).trans (hv.cell 10),(h.cell (p:=⟨w.heap.size,11,none⟩) hvl).trans (hv.cell 11),(h.cell (p:=⟨w.heap.size,17,none⟩) hvl).trans ((hv.cell 17).trans (by rw[HA3.out];rfl)),(h.cell (p:=⟨b3,off3+k,none⟩) lb3').trans q0,h⟩
 clear hA3 hd0 lb3 ho3 hlt;go_enter Tryz.func68,Tryz.ntmps68
 go_wp2_with fail;rw[←hW2];clear hW2 v27;refine rgS 9 HSS fun hHeld=>?_
 refine tkM 8 [0,1,2,3,4,5,6,7] ?_;refine rd1 8 rfl fun K hK=>?_
 go_simp;go_at_call 110
 refine (HO1.out _ bQ.drew).mono ?_;rintro e w3 ⟨rfl,hq3⟩;have hq3':Below W2.heap.size W2 w3:=bQ.drew.trans hq3;go_wp2_with fail
 refine hK.out _ _ (HSS.out _ hq3') (fun hHeld=>?_);clear hK K;try simp only[Act.put,lsa,lsz,lss]
 refine wdn ?_;have hb3:=z00 hb2 hb2.size hq3';have hv3:=hv.now hq3';have hz3:=hz.now hq3';clear HSS HO1 hq3 hHeld q0 lb3' hvl
 cases d0 with
 | true=>
  have HX:Hid (⟨3,k,0⟩=x0q i.i rv.r ⟨st,(k:Int),tim⟩ cla emp):=hE (by rw[HX0.out];rfl);have r0:=hz3.cell 0;have r1:=hz3.cell 1;have r2:=hz3.cell 2;have rf:=hz3.free;have rl:=hz3.lt;simp only[gqA,gqZ,gqS] at r0 r1 r2;have HF:=hE (aIq ((((hz3.set 0 (.int .i64 3)).set 1 (.int .i64 (k:Int))).set 2 (.int .i64 0))) ((((hb3.setCell (p:=⟨w.heap.size+1,0,none⟩) (by simp) (.int .i64 3)).setCell (p:=⟨w.heap.size+1,1,none⟩) (by simp) (.int .i64 (k:Int))).setCell (p:=⟨w.heap.size+1,2,none⟩) (by simp) (.int .i64 0))));go_wp2_with fail
  obtain ⟨p,hbf⟩:=HF.out;have p0:=p.cell 0;have p1:=p.cell 1;have p2:=p.cell 2;have pl:=p.lt;simp only[gqA,gqZ,gqS,lsz,lss,lsa] at p0 p1 p2
  exact bodyPost_ret (v:=.agg #[.int .i64 3,.int .i64 (k:Int),.int .i64 0]) (by simp[results,Tryz.results68,go_sem,p0,p1,p2,pl,r0,r1,r2,rl]) rfl ⟨by rw[←HX.out];rfl,hbf⟩
 | false=>
  have x28:=hv3.cell 28;have x29:=hv3.cell 29;have x32:=hv3.cell 32;have xl:=hv3.lt;simp only[gqA,gqZ,gqS] at x28 x29 x32;have hsz3:=hb3.size
  cases cla with
  | true=>
   have HX:Hid (⟨4,k,0⟩=x0q i.i rv.r ⟨st,(k:Int),tim⟩ true emp):=hE (by rw[HX0.out];rfl);have r0:=hz3.cell 0;have r1:=hz3.cell 1;have r2:=hz3.cell 2;have rf:=hz3.free;have rl:=hz3.lt;simp only[gqA,gqZ,gqS] at r0 r1 r2;have HF:=hE (aIq ((((hz3.set 0 (.int .i64 4)).set 1 (.int .i64 (k:Int))).set 2 (.int .i64 0)).alloc (.cells #[.int .i64 4,.int .i64 (k:Int),.int .i64 0] 58)) ((((hb3.setCell (p:=⟨w.heap.size+1,0,none⟩) (by simp) (.int .i64 4)).setCell (p:=⟨w.heap.size+1,1,none⟩) (by simp) (.int .i64 (k:Int))).setCell (p:=⟨w.heap.size+1,2,none⟩) (by simp) (.int .i64 0)).alloc (by simp;omega) (.cells #[.int .i64 4,.int .i64 (k:Int),.int .i64 0] 58)));go_wp2_with fail
   obtain ⟨p,hbf⟩:=HF.out;have p0:=p.cell 0;have p1:=p.cell 1;have p2:=p.cell 2;have pl:=p.lt;simp only[gqA,gqZ,gqS,lsz,lss,lsa] at p0 p1 p2
   exact bodyPost_ret (v:=.agg #[.int .i64 4,.int .i64 (k:Int),.int .i64 0]) (by simp[results,Tryz.results68,go_sem,p0,p1,p2,pl,r0,r1,r2,rl]) rfl ⟨by rw[←HX.out];rfl,hbf⟩
  | false=>
   cases emp with
   | false=>
    have HX:Hid (⟨4,k,0⟩=x0q i.i rv.r ⟨st,(k:Int),tim⟩ false false):=hE (by rw[HX0.out];rfl);have r0:=hz3.cell 0;have r1:=hz3.cell 1;have r2:=hz3.cell 2;have rf:=hz3.free;have rl:=hz3.lt;simp only[gqA,gqZ,gqS] at r0 r1 r2;have HF:=hE (aIq ((((hz3.set 0 (.int .i64 4)).set 1 (.int .i64 (k:Int))).set 2 (.int .i64 0)).alloc (.cells #[.int .i64 4,.int .i64 (k:Int),.int .i64 0] 58)) ((((hb3.setCell (p:=⟨w.heap.size+1,0,none⟩) (by simp) (.int .i64 4)).setCell (p:=⟨w.heap.size+1,1,none⟩) (by simp) (.int .i64 (k:Int))).setCell (p:=⟨w.heap.size+1,2,none⟩) (by simp) (.int .i64 0)).alloc (by simp;omega) (.cells #[.int .i64 4,.int .i64 (k:Int),.int .i64 0] 58)));go_wp2_with fail
    obtain ⟨p,hbf⟩:=HF.out;have p0:=p.cell 0;have p1:=p.cell 1;have p2:=p.cell 2;have pl:=p.lt;simp only[gqA,gqZ,gqS,lsz,lss,lsa] at p0 p1 p2
    exact bodyPost_ret (v:=.agg #[.int .i64 4,.int .i64 (k:Int),.int .i64 0]) (by simp[results,Tryz.results68,go_sem,p0,p1,p2,pl,r0,r1,r2,rl]) rfl ⟨by rw[←HX.out];rfl,hbf⟩
   | true=>
    by_cases ht:tim+1=12
    ·have HX:Hid (zS=x0q i.i rv.r ⟨st,(k:Int),tim⟩ false true):=hE (by rw[HX0.out];simp[ht]);have te:(tim+1==12)=true:=by rw[ht];rfl
     clear ht;have r0:=hz3.cell 0;have r1:=hz3.cell 1;have r2:=hz3.cell 2;have rf:=hz3.free;have rl:=hz3.lt;simp only[gqA,gqZ,gqS] at r0 r1 r2;have HF:=hE (aIq ((((hz3.set 0 (.int .i64 0)).set 1 (.int .i64 0)).set 2 (.int .i64 0)).alloc (.cells #[.int .i64 4,.int .i64 (k:Int),.int .i64 (tim+1)] 58)) ((((hb3.setCell (p:=⟨w.heap.size+1,0,none⟩) (by simp) (.int .i64 0)).setCell (p:=⟨w.heap.size+1,1,none⟩) (by simp) (.int .i64 0)).setCell (p:=⟨w.heap.size+1,2,none⟩) (by simp) (.int .i64 0)).alloc (by simp;omega) (.cells #[.int .i64 4,.int .i64 (k:Int),.int .i64 (tim+1)] 58)));go_wp2_with fail
     obtain ⟨p,hbf⟩:=HF.out;have p0:=p.cell 0;have p1:=p.cell 1;have p2:=p.cell 2;have pl:=p.lt;simp only[gqA,gqZ,gqS,lsz,lss,lsa] at p0 p1 p2;exact bodyPost_ret (v:=.agg #[.int .i64 0,.int .i64 0,.int .i64 0]) (by simp[results,Tryz.results68,go_sem,p0,p1,p2,pl,r0,r1,r2,rl]) rfl ⟨by rw[←HX.out];rfl,hbf⟩
    ·have HX:Hid (⟨4,k,tim+1⟩=x0q i.i rv.r ⟨st,(k:Int),tim⟩ false true):=hE (by rw[HX0.out];simp[ht]);have te:(tim+1==12)=false:=by simpa using ht
     clear ht;have r0:=hz3.cell 0;have r1:=hz3.cell 1;have r2:=hz3.cell 2;have rf:=hz3.free;have rl:=hz3.lt;simp only[gqA,gqZ,gqS] at r0 r1 r2;have HF:=hE (aIq ((((hz3.set 0 (.int .i64 4)).set 1 (.int .i64 (k:Int))).set 2 (.int .i64 (tim+1))).alloc (.cells #[.int .i64 4,.int .i64 (k:Int),.int .i64 (tim+1)] 58)) ((((hb3.setCell (p:=⟨w.heap.size+1,0,none⟩) (by simp) (.int .i64 4)).setCell (p:=⟨w.heap.size+1,1,none⟩) (by simp) (.int .i64 (k:Int))).setCell (p:=⟨w.heap.size+1,2,none⟩) (by simp) (.int .i64 (tim+1))).alloc (by simp;omega) (.cells #[.int .i64 4,.int .i64 (k:Int),.int .i64 (tim+1)] 58)));go_wp2_with fail
     obtain ⟨p,hbf⟩:=HF.out;have p0:=p.cell 0;have p1:=p.cell 1;have p2:=p.cell 2;have pl:=p.lt;simp only[gqA,gqZ,gqS,lsz,lss,lsa] at p0 p1 p2;exact bodyPost_ret (v:=.agg #[.int .i64 4,.int .i64 (k:Int),.int .i64 (tim+1)]) (by simp[results,Tryz.results68,go_sem,p0,p1,p2,pl,r0,r1,r2,rl]) rfl ⟨by rw[←HX.out];rfl,hbf⟩
end Go.Proofs.YtpenlfedkacglaaGreatDoor
namespace Go.Proofs.YtpenlfedkacglaaGreatDoor
open Go.RowKit
attribute [local go_sem] z05 z07 z01 z02
attribute [-go_sem] run_equalIn_agg
attribute [-go_sem] loadCellsFrom
theorem x1i {α:Type} {c:Cod α} {w:World} {base n cap:Nat} {e:TypeId} {A:Option Addr} {l:List α} (h:z09 c w base e (.slice A n cap) l 0) (hl:0 < l.length):∃ g,A=some ⟨g,0,none⟩∧base≤g∧g < w.heap.size:=by
 obtain ⟨xs,h1,h2,h3⟩:=h;rcases h1.2 with ⟨_,h0⟩ | ⟨g',cap',cur,hv,hb,hg,h4,h5,h6⟩
 ·omega
 ·simp only[Value.slice.injEq] at hv;exact ⟨g',hv.1,hb,z0j hg⟩
def z6n (t:Tab) (s:Itr) (k m:Nat) (l:List Bool):Prop:=l.length=24∧∀ (q:Nat),l[q]? = some true→(∃ a < k,(q:Int)∈z1p (z0r t a) (z1d s a))∨(q:Int)∈(z1p (z0r t k) (z1d s k)).take m
theorem z6n.zero (t:Tab) (s:Itr):z6n t s 0 0 (List.replicate 24 false):=⟨by simp,fun q h=>by rw[List.getElem?_replicate] at h;split at h <;> cases h⟩
theorem z6n.out {t:Tab} {s:Itr} {k m:Nat} {l:List Bool} (h:z6n t s k m l):z6n t s (k+1) 0 l:=⟨h.1,fun q hq=>by
 rcases h.2 q hq with ⟨a,ha,h2⟩ | h2
 ·exact Or.inl ⟨a,by omega,h2⟩
 ·exact Or.inl ⟨k,by omega,List.mem_of_mem_take h2⟩⟩
theorem z6n.put {t:Tab} {s:Itr} {k m q:Nat} {l:List Bool} (h:z6n t s k m l) (hm:m < (z1p (z0r t k) (z1d s k)).length) (hq:(z1p (z0r t k) (z1d s k))[m]=(q:Int)):z6n t s k (m+1) (l.set q true):=⟨by rw[List.length_set];exact h.1,fun q' h'=>by
 rw[tqS hm,hq];by_cases e:q=q'
 ·subst e;exact Or.inr (List.mem_append_right _ (by simp))
 ·rw[List.getElem?_set_ne e] at h';rcases h.2 q' h' with h2 | h2
  ·exact Or.inl h2
  ·exact Or.inr (List.mem_append_left _ h2)⟩
theorem z6n.new {t:Tab} {s:Itr} {k m q:Nat} {l:List Bool} (h:z6n t s k m l) (hs:z9u t s) (hk:k < t.rts.length) (hm:m < (z1p (z0r t k) (z1d s k)).length) (hq:(z1p (z0r t k) (z1d s k))[m]=(q:Int)) (hq2:q < 24):l[q]? = some false:=by
 have hl:q < l.length:=by rw[h.1];exact hq2
 have hmem:(q:Int)∈z1p (z0r t k) (z1d s k):=hq▸uE hm
 cases hv:l[q] with
 | false=>rw[gqE hl,hv]
 | true=>
  exfalso;rcases h.2 q (by rw[gqE hl,hv]) with ⟨a,ha,h2⟩ | h2
  ·exact x1l hs (Nat.lt_trans ha hk) hk (by omega) h2 hmem
  ·obtain ⟨hnd,-⟩:=y2s (z8l hs.fit.ck) hk (z1d s k);obtain ⟨j,hj,he⟩:=List.mem_iff_getElem.1 h2;rw[lTk] at hj;rw[List.getElem_take] at he;exact List.pairwise_iff_getElem.1 hnd j m (by omega) hm (by omega) (by rw[he,hq])
structure ExJ (v:z1w) (u:z1r) (w:World) (l:List Bool) (wr:World):Prop where
 b0:Blk wr w.heap.size 33 (z0t v)
 b1:Blk wr (w.heap.size+1) 41 (z1v u)
 ow:z09 cB wr w.heap.size 4 (.slice (some ⟨w.heap.size+1+1,0,none⟩) 24 24) l 0
 bel:Below w.heap.size w wr
theorem ExJ.now {v:z1w} {u:z1r} {w wr w':World} {l:List Bool} (h:ExJ v u w l wr) (hb:Below wr.heap.size wr w'):ExJ v u w l w':=⟨h.b0.now hb,h.b1.now hb,h.ow.now hb,z00 h.bel h.bel.size hb⟩
theorem ExJ.drew {v:z1w} {u:z1r} {w wr:World} {l:List Bool} (h:ExJ v u w l wr):ExJ v u w l wr.drew:=h.now bQ.drew
theorem ExJ.mark {v:z1w} {u:z1r} {w wr:World} {l:List Bool} (h:ExJ v u w l wr) (hl:l.length=24) {q:Nat} (hq:q < 24):wr.frozen? ⟨w.heap.size+1+1,q,none⟩=false∧w.heap.size+1+1 < wr.heap.size∧(∀ b,l[q]? = some b→wr.cell? ⟨w.heap.size+1+1,q,none⟩=some (.bool b))∧
  ExJ v u w (l.set q true) (wr.setCell ⟨w.heap.size+1+1,q,none⟩ (.bool true))∧Frm w.heap.size 4 wr (wr.setCell ⟨w.heap.size+1+1,q,none⟩ (.bool true)):=by
 have ho:z09 cB wr w.heap.size 4 (.slice (some ⟨w.heap.size+1+1,0,none⟩) l.length 24) l 0:=by rw[hl];exact h.ow
 obtain ⟨p1,p2⟩:=y48 z9w rfl (u:=.bool true) (y:=true) ho (show q < _ by omega) (fun _ _=>rfl);rw[hl] at p1;refine ⟨z9m ho q,(by obtain ⟨g,hA,-,hlt⟩:=x1i ho (by omega);simp only[qE,Addr.mk.injEq,and_true] at hA;omega),fun b hb=>?_,⟨p2.blk h.b0 (by decide),p2.blk h.b1 (by decide),p1,p2.keeps nL h.bel.size h.bel⟩,p2⟩;have hql:q < l.length:=by omega
 obtain ⟨bo,oo,hA,-,c0⟩:=ho.rdn.2.x79 hql;simp only[qE,Addr.mk.injEq,and_true] at hA;obtain ⟨rfl,rfl⟩:=hA;rw[Nat.zero_add] at c0;rw[gqE hql] at hb;rw[sJ hb] at c0;exact c0
theorem x8g {t:Tab} {s:Itr} {k j:Nat} {x:Stg} (hs:z9u t s) (hk:k < t.rts.length) (hx:x∈z4s t (z0r t k) (z1d s k)) (hj:j < t.pts.length) (he:t.pts[j]=x.el) (hl:j < s.lies.length):s.lies[j]=x.pos:=by
 have h:=hs.hd k hk x hx;unfold z4u at h;rw[←he,j6t (z8l hs.fit.ck) hj] at h;simpa [List.getD,hl] using h
theorem y3l (v:z1w) (u:z1r) (w:World) (hr:TvR w v) (hs:y1j w u) (hS:y4p v.t) (hsn:z9u v.t u.i):Calls Tryz.prog 10 #[.agg (z0t v),.agg (z1v u)] w fun e w'=>e=.returned (.bool true)∧Below w.heap.size w w':=by
 have hF:=z6u (z3s.2 hsn.fit);have hm1:=hr.n1.1;have hm2:=hr.n2.1;unfold maxLen at hm1 hm2;have hns:=(z8l hF.chk).ns;have hn2:=hE hF.l2;obtain ⟨W2,hW2⟩:∃ W,W=(w.alloc (.cells (z0t v) 33)).alloc (.cells (z1v u) 41):=⟨_,rfl⟩
 have hb2:Below w.heap.size w W2:=by rw[hW2];exact (bQ.alloc nL _).alloc (by simp) _
 have hg2:W2.heap.size=w.heap.size+1+1:=by rw[hW2];simp
 have hx0:Blk W2 w.heap.size 33 (z0t v):=by rw[hW2];exact (Blk.new _ _ _ _ rfl).alloc _
 have hx1:Blk W2 (w.heap.size+1) 41 (z1v u):=by rw[hW2];exact Blk.new _ _ _ _ (by simp)
 obtain ⟨W3,hW3⟩:∃ W,W=((w.alloc (.cells (z0t v) 33)).alloc (.cells (z1v u) 41)).alloc (.cells #[Value.bool false,Value.bool false,Value.bool false,Value.bool false,Value.bool false,Value.bool false,Value.bool false,Value.bool false,Value.bool false,Value.bool false,Value.bool false,Value.bool false,Value.bool false,Value.bool false,Value.bool false,Value.bool false,Value.bool false,Value.bool false,Value.bool false,Value.bool false,Value.bool false,Value.bool false,Value.bool false,Value.bool false] 4):=⟨_,rfl⟩
 have hW3':W3=W2.alloc (.cells (List.replicate 24 (Value.bool false)).toArray 4):=by rw[hW3,hW2];rfl
 have hbe3:Below W2.heap.size W2 W3:=by rw[hW3'];exact bQ.alloc nL _
 have hJ:ExJ v u w (List.replicate 24 false) W3:=⟨hx0.now hbe3,hx1.now hbe3,by
  rw[hW3',←y7z,←hg2];exact z9n z9w (x:=false) (ys:=[.bool false]) (fun _ _=>rfl) hb2.size (by unfold maxLen;omega),z00 hb2 hb2.size hbe3⟩
 have mk:∀ W:World,(Instr.makeSlice 43 (.int .i64 24) (.int .i64 24)).run Tryz.prog W=.ok (.slice (some ⟨W.heap.size,0,none⟩) 24 24) (W.alloc (.cells (List.replicate 24 (Value.bool false)).toArray 4)):=fun W=>x4c 24 (by omega) W
 have HJ:=hE hJ;have c00:=hJ.b0.cell 0;have lc0:=hJ.b0.lt;simp only[gqA,gqZ,gqS] at c00;have HSN:=hE hsn;have HFF:=hE hF;clear hx0 hx1 hW2 hW3' hbe3 hg2 hb2 hJ hsn hF;go_enter Tryz.func10,Tryz.ntmps10
 go_upto_region 2 with (fail)
 rw[←hW3];clear hW3 mk;go_wp2_with fail
 clear c00 lc0;go_loopw [16] (fun a wr=>∃ (k:Nat) (l:List Bool),a=.int .i64 k∧k≤v.t.rts.length∧z6n v.t u.i k 0 l∧ExJ v u w l wr) (fun n _=>v.t.rts.length - (intOf n).toNat)
 case atStart=>exact ⟨0,_,rfl,nZ,z6n.zero _ _,HJ.out⟩
 case round=>
  obtain ⟨k,l,rfl,hkl,hse,hJ⟩:=hrel;clear HJ;by_cases hlt:k < v.t.rts.length
  ·have hki:(k:Int) < (v.t.rts.length:Int):=by omega
   have HP:=hE (y0h v u k wr (hr.now hJ.bel) (hs.now hJ.bel) hS HFF.out hlt);have HBD:=hE fun W' (h:Below w.heap.size w W')=>x0g v u k W' (hr.now h) (hs.now h) hS HFF.out hlt
   have hpn:=(y2s (z8l HFF.out.chk) hlt (z1d u.i k)).2;have HNW:=hE fun m q l h h1 h2 h3=>z6n.new (m:=m) (q:=q) (l:=l) h HSN.out hlt h1 h2 h3
   have HPU:=hE fun m q l h h1 h2=>z6n.put (t:=v.t) (s:=u.i) (k:=k) (m:=m) (q:=q) (l:=l) h h1 h2
   have HLA:=hE fun j x h1 h2 h3 h4=>x8g (j:=j) (x:=x) HSN.out hlt h1 h2 h3 h4
   have HSO:=hE fun m l h=>z6n.out (t:=v.t) (s:=u.i) (k:=k) (m:=m) (l:=l) h
   obtain ⟨PL,hPL⟩:∃ L,L=z1p (z0r v.t k) (z1d u.i k):=⟨_,rfl⟩
   obtain ⟨BL,hBL⟩:∃ L,L=z4s v.t (z0r v.t k) (z1d u.i k):=⟨_,rfl⟩
   rw[←hPL] at HP hpn HNW HPU;rw[←hBL] at HBD HLA;have ld0:=z0c hJ.b0 5 rfl;have ld1:=z0c hJ.b1 2 rfl;have hlt1:=hJ.b0.lt;have hlt2:=hJ.b1.lt;have HJ:=hE hJ;have HSE:=hE hse;have HPN:=hE hpn;clear hPL hBL hJ hse hpn;go_wp2_with fail
   refine HP.out.mono ?_;rintro e w4 ⟨Ap,cp,rfl,hop,hq4⟩;have hnp:=hop.rdn.1.1;unfold maxLen at hnp;have HJ4:=hE (HJ.out.now hq4);clear ld0 ld1 HP HJ hq4 hlt1 hlt2;go_wp2_with fail
   go_loopw [24] (fun a wz=>∃ (m:Nat) (l:List Bool),a=.int .i64 m∧m≤PL.length∧z6n v.t u.i k m l∧ExJ v u w l wz∧z09 cI wz wr.heap.size 3 (.slice Ap PL.length cp) PL 0) (fun n _=>PL.length - (intOf n).toNat)
   case atStart=>exact ⟨0,l,rfl,nZ,HSE.out,HJ4.out,hop⟩
   case round=>
    obtain ⟨wz,hww⟩:∃ W,W=wr:=⟨_,rfl⟩
    subst hww;obtain ⟨m,l2,rfl,hml,hse,hJ,hop⟩:=hrel;clear HJ4 HSE;by_cases hlm:m < PL.length
    ·have hmi:(m:Int) < (PL.length:Int):=by omega
     obtain ⟨bp,op,hAp,lbp,h64,y0⟩:=hop.rdn.2.elI hlm;obtain ⟨hq0,hq1⟩:=HPN.out _ (uE hlm);obtain ⟨q,hq⟩:∃ q:Nat,PL[m]=(q:Int):=⟨PL[m].toNat,by omega⟩
     rw[hq] at y0 h64 hq0 hq1;have hq24:q < 24:=by omega
     have hqi:(q:Int) < 24:=by omega
     have hq0':¬(q:Int) < 0:=by omega
     have hq1':¬(24:Int)≤(q:Int):=by omega
     obtain ⟨fz,lz,cz,hJ5,hf5⟩:=hJ.mark hse.1 hq24;have c5:=cz _ (HNW.out m q l2 hse hlm hq hq24);have HJ5:=hE (aIq hJ5 (aIq (HPU.out m q l2 hse hlm hq) (hop.frm hf5 (by decide) nZ)));have lbp':bp < wz.heap.size:=lbp.2;have HAP:=hE hAp;rw[hAp];clear hAp hJ5 hf5 cz hse hJ hop hq hq0 hq1 lbp h64 HNW;go_wp2_with fail
     go_roundw
     case rel=>
      have hm1:m+1≤PL.length:=by omega
      exact ⟨m+1,_,by go_num,hm1,HJ5.out.2.1,HJ5.out.1,HAP.out▸HJ5.out.2.2⟩
     case measure=>simp[intOf];omega
    ·have hmi:¬(m:Int) < (PL.length:Int):=by omega
     have hse2:=HSO.out _ _ hse;have HB5:=hE (HBD.out _ hJ.bel);have ld0:=z0c hJ.b0 5 rfl;have ld1:=z0c hJ.b1 2 rfl;have hlt1:=hJ.b0.lt;have hlt2:=hJ.b1.lt;have HJ:=hE hJ;have HSE:=hE hse2;clear hse hse2 hJ hop;go_wp2_with fail
     refine HB5.out.mono ?_;rintro e w6 ⟨Ab,cb,rfl,hob,hq6⟩;have hnb:=hob.rdn.1.1;unfold maxLen at hnb;have HJ6:=hE (HJ.out.now hq6);clear ld0 ld1 HB5 HJ hq6 hlt1 hlt2;go_wp2_with fail
     go_loopw [51] (fun a wy=>∃ (m:Nat),a=.int .i64 m∧m≤BL.length∧ExJ v u w l2 wy∧z09 z2x wy wz.heap.size 78 (.slice Ab BL.length cb) BL 0) (fun n _=>BL.length - (intOf n).toNat)
     case atStart=>exact ⟨0,rfl,nZ,HJ6.out,hob⟩
     case round=>
      obtain ⟨wy,hww⟩:∃ W,W=wr:=⟨_,rfl⟩
      subst hww;obtain ⟨m2,rfl,hml2,hJ,hob⟩:=hrel;clear HJ6;by_cases hlm2:m2 < BL.length
      ·have hmi2:(m2:Int) < (BL.length:Int):=by omega
       obtain ⟨bb,ob,hAb,lbb,h64,y0,y1⟩:=hob.rdn.2.elG hlm2;obtain ⟨x,hx⟩:∃ x,BL[m2]=x:=⟨_,rfl⟩
       have hxm:x∈BL:=by rw[←hx];exact uE hlm2
       rw[hx] at y0 y1
       have lds:=z2y (w:=wy) (b:=bb) (o:=ob+m2*2) (n:=2) (ys:=[.int .i64 x.el,.int .i64 x.pos]) rfl (fun j u hj=>match j,hj with
        | 0,hj=>(sJ hj)▸y0
        | 1,hj=>(sJ hj)▸y1)
       simp only[List.toArray] at lds;obtain ⟨W7,hW7⟩:∃ W,W=wy.alloc (.cells #[.int .i64 x.el,.int .i64 x.pos] 78):=⟨_,rfl⟩
       have h7:Below wy.heap.size wy W7:=by rw[hW7];exact bQ.alloc nL _
       have hbx:Blk W7 wy.heap.size 78 #[.int .i64 x.el,.int .i64 x.pos]:=by rw[hW7];exact Blk.new _ _ _ _ rfl
       have hJ7:=hJ.now h7;have c01:=hJ7.b0.cell 1;have lc0:=hJ7.b0.lt;simp only[gqA,gqZ,gqS] at c01;have HJ7:=hE (aIq hJ7 (aIq (hob.now h7) hbx));have lbb':bb < wy.heap.size:=lbb.2;have HAB:=hE hAb;have HLX:=hE fun j h2 h3 h4=>HLA.out j x hxm h2 h3 h4
       rw[hAb];clear hAb hJ hJ7 hob hbx hx hxm lbb h64 y0 y1 h7;go_upto_region 15 with (fail)
       rw[←hW7];clear hW7 lds lbb';go_wp2_with fail
       clear c01 lc0;go_loopw [58] (fun a wx=>∃ (j:Nat),a=.int .i64 j∧j≤v.t.pts.length∧ExJ v u w l2 wx∧z09 z2x wx wz.heap.size 78 (.slice (some ⟨bb,ob,none⟩) BL.length cb) BL 0∧Blk wx wy.heap.size 78 #[.int .i64 x.el,.int .i64 x.pos]) (fun n _=>v.t.pts.length - (intOf n).toNat)
       case atStart=>exact ⟨0,rfl,nZ,HJ7.out.1,HAB.out▸HJ7.out.2.1,HJ7.out.2.2⟩
       case round=>
        obtain ⟨wx,hww⟩:∃ W,W=wr:=⟨_,rfl⟩
        subst hww;obtain ⟨j,rfl,hjl,hJ,hob,hbx⟩:=hrel;clear HJ7;by_cases hlj:j < v.t.pts.length
        ·have hji:(j:Int) < (v.t.pts.length:Int):=by omega
         have hjl2:j < u.i.lies.length:=by rw[hn2.out];exact hlj
         have hji2:(j:Int) < (u.i.lies.length:Int):=by omega
         have hji3:¬(u.i.lies.length:Int)≤(j:Int):=by omega
         obtain ⟨ba,oa,hA2,lba,-,y0⟩:=(hr.now hJ.bel).r2.elI hlj;obtain ⟨bl,ol,hA3,lbl,-,z0⟩:=(hs.now hJ.bel).r2.elI hjl2;have HLJ:=hE fun h=>HLX.out j hlj h hjl2
         obtain ⟨pj,hpj⟩:∃ p,v.t.pts[j]=p:=⟨_,rfl⟩
         obtain ⟨lj,hlj2⟩:∃ p,u.i.lies[j]=p:=⟨_,rfl⟩
         rw[hpj] at y0 HLJ;rw[hlj2] at z0 HLJ;have S0:Hid (wx.cell? ⟨w.heap.size,1,none⟩=some (.slice (some ⟨ba,oa,none⟩) v.t.pts.length v.c2)):=hE ((hJ.b0.cell 1).trans (by unfold z0t;rw[hA2];rfl));have S1:Hid (wx.cell? ⟨w.heap.size+1,1,none⟩=some (.slice (some ⟨bl,ol,none⟩) u.i.lies.length u.c2)):=hE ((hJ.b1.cell 1).trans (by unfold z1v;rw[hA3];rfl));have s0:=S0.out;have s1:=S1.out;have x0:=hbx.cell 0;have x1:=hbx.cell 1;simp only[gqA,gqZ,gqS] at x0 x1;have l0:=hJ.b0.lt;have l1:=hJ.b1.lt;have lx:=hbx.lt;have lba':ba < wx.heap.size:=lba;have lbl':bl < wx.heap.size:=lbl;have HJ:=hE (aIq hJ.drew (aIq hob.drew hbx.drew));clear hJ hob hbx hA2 hA3 hpj hlj2 lba lbl S0 S1;go_upto_region 18 with (fail)
         by_cases hpx:pj=x.el;case pos=>
          have hlx:=HLJ.out hpx;have t1:(pj==x.el)=true:=by simpa using hpx
          have t2:(lj != x.pos)=false:=by simp[hlx]
          clear hpx hlx HLJ;refine rgH 25 (S:=(fun w'=>w'.cell? ⟨w.heap.size,1,none⟩=some (.slice (some ⟨ba,oa,none⟩) v.t.pts.length v.c2)∧w'.cell? ⟨w.heap.size+1,1,none⟩=some (.slice (some ⟨bl,ol,none⟩) u.i.lies.length u.c2)∧w'.cell? ⟨ba,oa+j,none⟩=some (.int .i64 pj)∧w'.cell? ⟨bl,ol+j,none⟩=some (.int .i64 lj)∧w'.cell? ⟨wy.heap.size,0,none⟩=some (.int .i64 x.el)∧w'.cell? ⟨wy.heap.size,1,none⟩=some (.int .i64 x.pos))) (⟨s0,s1,y0,z0,x0,x1⟩) fun hHeld=>?_
          refine tkM 25 [0,1,2,3,4,5,6,7,8,9,10,11,12,13,14,15,16,17,18,19,20,21,22,23,24] ?_;refine wdn ?_;clear hHeld;go_wp2_with fail
          go_roundw
          case rel=>
           have hj1:j+1≤v.t.pts.length:=by omega
           exact ⟨j+1,by go_num,hj1,HJ.out.1,HJ.out.2.1,HJ.out.2.2⟩
          case measure=>simp[intOf];omega
         case neg=>
          have t1:(pj==x.el)=false:=by simpa using hpx
          clear hpx HLJ;refine rgH 25 (S:=(fun w'=>w'.cell? ⟨w.heap.size,1,none⟩=some (.slice (some ⟨ba,oa,none⟩) v.t.pts.length v.c2)∧w'.cell? ⟨w.heap.size+1,1,none⟩=some (.slice (some ⟨bl,ol,none⟩) u.i.lies.length u.c2)∧w'.cell? ⟨ba,oa+j,none⟩=some (.int .i64 pj)∧w'.cell? ⟨bl,ol+j,none⟩=some (.int .i64 lj)∧w'.cell? ⟨wy.heap.size,0,none⟩=some (.int .i64 x.el)∧w'.cell? ⟨wy.heap.size,1,none⟩=some (.int .i64 x.pos))) (⟨s0,s1,y0,z0,x0,x1⟩) fun hHeld=>?_
          refine tkM 25 [0,1,2,3,4,5,6,7,8,9,10,11,12,13,14,15,16,17,18,19,20,21,22,23,24] ?_;refine wdn ?_;clear hHeld;go_wp2_with fail
          go_roundw
          case rel=>
           have hj1:j+1≤v.t.pts.length:=by omega
           exact ⟨j+1,by go_num,hj1,HJ.out.1,HJ.out.2.1,HJ.out.2.2⟩
          case measure=>simp[intOf];omega
        ·have hji:¬(j:Int) < (v.t.pts.length:Int):=by omega
         have HJ:=hE (aIq hJ hob);clear hJ hob hbx;go_wp2_with fail
         go_roundw
         case rel=>
          have hm1:m2+1≤BL.length:=by omega
          exact ⟨m2+1,by go_num,hm1,HJ.out.1,HAB.out▸HJ.out.2⟩
         case measure=>simp[intOf];omega
      ·have hmi2:¬(m2:Int) < (BL.length:Int):=by omega
       have HJ:=hE hJ;clear hJ hob;go_wp2_with fail
       go_roundw
       case rel=>
        have hk1:k+1≤v.t.rts.length:=by omega
        exact ⟨k+1,l2,by go_num,hk1,HSE.out,HJ.out⟩
       case measure=>simp[intOf];omega
  ·have hki:¬(k:Int) < (v.t.rts.length:Int):=by omega
   have HB:=hE hJ.bel;clear hJ hse;go_wp2_with fail
   go_ret;exact ⟨rfl,HB.out⟩
end Go.Proofs.YtpenlfedkacglaaGreatDoor
