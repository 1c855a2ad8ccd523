import Derived.Test.YtpenlfedkacglaaGreatDoorR19
set_option maxRecDepth 100000
set_option maxHeartbeats 40000000
set_option linter.all false
namespace Go.Proofs.YtpenlfedkacglaaGreatDoor
open Go.RowKit
attribute [local go_sem] z05 z09 z01 z02
attribute [-go_sem] run_equalIn_agg
def x9o (l:List Int) (occ:List Bool) (j:Nat):Prop:=(l.take j).all (fun n=>!z2j occ n)=true
theorem y8s {l:List Int} {occ:List Bool} {j:Nat} (h:x9o l occ j) (hj:j < l.length) (hx:z2j occ l[j]=false):x9o l occ (j+1):=by
 have h1:(l.take j).all (fun n=>!z2j occ n)=true:=h;unfold x9o;rw[z7d hj,h1,hx];rfl
theorem occ_no {l:List Int} {occ:List Bool} {j:Nat} (hj:j < l.length) (hx:z2j occ l[j]=true):(l.all fun n=>!z2j occ n)=false:=y2y hj (by rw[hx];rfl)
theorem x42 {l:List Int} {occ:List Bool} {j:Nat} (h:x9o l occ j) (hj:¬j < l.length):(l.all fun n=>!z2j occ n)=true:=by
 have h1:(l.take j).all (fun n=>!z2j occ n)=true:=h
 rwa [tlL (by omega)] at h1
theorem y6w (v:z1q) (u:z1r) (i:z3o) (k:Nat) (w:World) (hr:TvR w v) (hs:y1a w u) (hi:y2t w i) (hS:y4e v.t) (hF:Fits v.t u.i) (hlt:k < v.t.rts.length):Calls Tryz.prog 64 #[.agg (z0s v),.agg (z1u u),.agg (z3q i),.int .i64 (k:Int)] w fun e w'=>e=.returned (.bool ((z2r (z0w v.t k) (z1g u.i k)).all fun n=>!z2j i.i.occ n))∧Below w.heap.size w w':=by
 obtain ⟨W2,hW2⟩:∃ W,W=((w.alloc (.cells (z0s v) 33)).alloc (.cells (z1u u) 41)).alloc (.cells (z3q i) 49):=⟨_,rfl⟩
 have hb2:Below w.heap.size w W2:=by rw[hW2];exact ((bQ.alloc nL _).alloc (by simp) _).alloc (by simp;omega) _
 have hx2:Blk W2 (w.heap.size+2) 49 (z3q i):=by rw[hW2];exact Blk.new _ _ _ _ (by simp)
 have HP:=hE (y5s v u k W2 (hr.now hb2) (hs.now hb2) hS hF hlt);have hpl:=y08 (z0w v.t k) (z1g u.i k);have hsec:=(hS _ (z4j hlt)).n3;clear hS hF hlt;go_enter Tryz.func64,Tryz.ntmps64
 go_wp2_with fail;rw[←hW2];clear hW2;refine HP.out.mono ?_;rintro e w3 ⟨A1,c1,rfl,ho,hq3⟩;have hb3:=z00 hb2 hb2.size hq3;have hxi:=hx2.now hq3;have hrd:=ho.rdn.2;clear HP hx2 hb2 hq3;obtain ⟨pl,hplE⟩:∃ p,z2r (z0w v.t k) (z1g u.i k)=p:=⟨_,rfl⟩
 have HPE:=hE hplE;rw[hplE] at hpl ho hrd ⊢;clear hplE;go_wp2_with fail
 go_loopw [16] (fun n wr=>∃ j:Nat,j≤pl.length∧n=.int .i64 j∧Below w3.heap.size w3 wr∧Hid (x9o pl i.i.occ j)) (fun n _=>pl.length - (intOf n).toNat)
 case atStart=>exact ⟨0,nZ,rfl,bQ,hE (by unfold x9o;simp)⟩
 case round=>
  obtain ⟨j,hjl,rfl,hb,HJ⟩:=hrel;have hbb:=z00 hb3 hb3.size hb;by_cases hltj:j < pl.length
  ·have hji:(j:Int) < (pl.length:Int):=by omega
   obtain ⟨b,off,hA,lb,hoj,y0⟩:=(ho.now hb).rdn.2.elI hltj;have lbw:b < wr.heap.size:=lb.2;have HS:=hE (fun h=>y8s HJ.out hltj h);have HN:=hE (fun h=>occ_no (occ:=i.i.occ) hltj h);have HOC:=hE (z1o i pl[j] wr (hi.now hbb));have hxw:=hxi.now hb;have i0:=hxw.cell 0;have i1:=hxw.cell 1;have i2:=hxw.cell 2;have i3:=hxw.cell 3;have i4:=hxw.cell 4;have i5:=hxw.cell 5;have i6:=hxw.cell 6;have li:=hxw.lt;simp only[gqA,gqZ,gqS] at i0 i1 i2 i3 i4 i5 i6;generalize pl[j]=n at *;obtain ⟨rb,hrb⟩:∃ c,z2j i.i.occ n=c:=⟨_,rfl⟩
   rw[hrb] at HS HN HOC;clear hrb;rw[hA];clear hA lb hxw;go_wp2_with fail
   refine HOC.out.mono ?_;rintro e w7 ⟨rfl,hq7⟩;have hb7:=z00 hb hb.size hq7;have hbb7:=z00 hb3 hb3.size hb7;clear HOC hq7 hb hbb i0 i1 i2 i3 i4 i5 i6 li y0 lbw
   cases rb with
   | true=>
    have HX:=hE (HN.out rfl);go_wp2_with fail
    go_ret
    exact ⟨z0a (by rw[HPE.out];exact HX.out.symm),hbb7⟩
   | false=>
    have HX:=hE (HS.out rfl);go_wp2_with fail
    go_roundw
    case rel=>
     have hk1:j+1≤pl.length:=hltj;refine ⟨j+1,hk1,by go_num,hb7,?_⟩;exact HX
    case measure=>simp[intOf];omega
  ·have hji:¬(j:Int) < (pl.length:Int):=by omega
   have HX:=hE (x42 HJ.out hltj);go_wp2_with fail
   go_ret;exact ⟨z0a (by rw[HPE.out];exact HX.out.symm),hbb⟩
def j7k (t:Tab) (det:List Int) (l:List Stg) (j:Nat):Prop:=(l.take j).all (fun x=>decide (det[(plF t x.el).toNat]? = some x.pos))=true
theorem j2y {t:Tab} {i:Inp} {r:Rou} (h:((r.secs++r.osecs).all fun n=>!z2j i.occ n)=false):y8z t i r=false:=by unfold y8z;rw[h];rfl
theorem j2x {t:Tab} {i:Inp} {r:Rou} (h:((r.secs++r.osecs).all fun n=>!z2j i.occ n)=true):y8z t i r=((z1t r).all fun x=>decide (i.det[(plF t x.el).toNat]? = some x.pos)):=by unfold y8z;rw[h];rfl
theorem y2n (v:z1q) (i:z3o) (rv:z2t) (w:World) (hr:TvR w v) (hi:y2t w i) (hrv:RvR w (Lt w) rv) (hck:z4p v.t=0) (hm:rv.r∈v.t.rts) (hS:j4e rv.r):Calls Tryz.prog 65 #[.agg (z0s v),.agg (z3q i),.agg (z0f rv)] w fun e w'=>e=.returned (.bool (y8z v.t i.i rv.r))∧Below w.heap.size w w':=by
 obtain ⟨W2,hW2⟩:∃ W,W=(((w.alloc (.cells (z0s v) 33)).alloc (.cells (z3q i) 49)).alloc (.cells (z0f rv) 56)).alloc (.cells #[.slice rv.A3 rv.r.secs.length rv.c3,.slice rv.A6 rv.r.osecs.length rv.c6] 31):=⟨_,rfl⟩
 have hb2:Below w.heap.size w W2:=by rw[hW2];exact (((bQ.alloc nL _).alloc (by simp) _).alloc (by simp;omega) _).alloc (by simp;omega) _
 have hx0:Blk W2 w.heap.size 33 (z0s v):=by rw[hW2];exact (((Blk.new _ _ _ _ rfl).alloc _).alloc _).alloc _
 have hx1:Blk W2 (w.heap.size+1) 49 (z3q i):=by rw[hW2];exact ((Blk.new _ _ _ _ (by simp)).alloc _).alloc _
 have hx2:Blk W2 (w.heap.size+2) 56 (z0f rv):=by rw[hW2];exact (Blk.new _ _ _ _ (by simp)).alloc _
 have hx3:Blk W2 (w.heap.size+3) 31 #[.slice rv.A3 rv.r.secs.length rv.c3,.slice rv.A6 rv.r.osecs.length rv.c6]:=by rw[hW2];exact Blk.new _ _ _ _ (by simp)
 have hrv2:=hrv.now hb2;have HC:=hE (z81 [rv.r.secs,rv.r.osecs] _ 2 W2 (y9i hx3 hx3.lt hrv.o.n3 hrv.o.n6 hrv2.r3 hrv2.r6) (by simp) (by intro l hl;have:=hS.n3;have:=hS.n6;simp at hl;rcases hl with rfl | rfl <;> omega));have HPT:Hid (∀ x∈z1t rv.r,x.el∈v.t.pts):=hE fun x hx=>((y0r hck).stg _ hm x (z1z.1 hx)).1
 have HCK:=hE hck;have hsl:=y0o rv.r;have n2:=hS.n2;have n5:=hS.n5;have n7:=hS.n7;have n3:=hS.n3;have n6:=hS.n6;have HS:=hE hS;have hdl:=hi.n2.1;unfold maxLen at hdl;clear hx3 hrv2 hck hm hS;go_enter Tryz.func65,Tryz.ntmps65
 go_wp2_with fail;rw[←hW2];clear hW2;refine HC.out.mono ?_;rintro e w3 ⟨cv,rfl,hlow,hq3⟩;have hb3:=z00 hb2 hb2.size hq3;have ho:=z6z (fun _ _ _ _ _ _ h=>h:Flat cI) hlow;have hfl:[rv.r.secs,rv.r.osecs].flatten=rv.r.secs++rv.r.osecs:=by simp
 rw[hfl] at ho;obtain ⟨A1,c1,rfl⟩:=ho.form;have hal:(rv.r.secs++rv.r.osecs).length≤60000:=by rw[qL];omega
 have hbx:=aIq (hx0.now hq3) (aIq (hx1.now hq3) (hx2.now hq3));have HBX:=hE fun W' (h:Below w3.heap.size w3 W')=>aIq (hbx.1.now h) (aIq (hbx.2.1.now h) (hbx.2.2.now h))
 have HPO:=hE fun h=>j2y (t:=v.t) (i:=i.i) (r:=rv.r) h
 have HPD:=hE fun h=>j2x (t:=v.t) (i:=i.i) (r:=rv.r) h
 clear hlow hq3 hb2 HC hx0 hx1 hx2 hfl hbx;generalize rv.r.secs++rv.r.osecs=pl at *;go_wp2_with fail
 go_loopw [19] (fun n wr=>∃ j:Nat,j≤pl.length∧n=.int .i64 j∧Below w3.heap.size w3 wr∧Hid (x9o pl i.i.occ j)) (fun n _=>pl.length - (intOf n).toNat)
 case atStart=>exact ⟨0,nZ,rfl,bQ,hE (by unfold x9o;simp)⟩
 case round=>
  obtain ⟨j,hjl,rfl,hb,HJ⟩:=hrel;have hbb:=z00 hb3 hb3.size hb;by_cases hltj:j < pl.length
  ·have hji:(j:Int) < (pl.length:Int):=by omega
   obtain ⟨b,off,hA,lb,hoj,y0⟩:=(ho.now hb).rdn.2.elI hltj;have lbw:b < wr.heap.size:=lb.2;have HS:=hE (fun h=>y8s HJ.out hltj h);have HN:=hE (fun h=>occ_no (occ:=i.i.occ) hltj h);have HOC:=hE (z1o i pl[j] wr (hi.now hbb));have hxw:=(HBX.out wr hb).2.1;have i0:=hxw.cell 0;have i1:=hxw.cell 1;have i2:=hxw.cell 2;have i3:=hxw.cell 3;have i4:=hxw.cell 4;have i5:=hxw.cell 5;have i6:=hxw.cell 6;have li:=hxw.lt;simp only[gqA,gqZ,gqS] at i0 i1 i2 i3 i4 i5 i6;generalize pl[j]=n at *;obtain ⟨rb,hrb⟩:∃ c,z2j i.i.occ n=c:=⟨_,rfl⟩
   rw[hrb] at HS HN HOC;clear hrb;subst hA;clear lb hxw;go_wp2_with fail
   refine HOC.out.mono ?_;rintro e w7 ⟨rfl,hq7⟩;have hb7:=z00 hb hb.size hq7;have hbb7:=z00 hb3 hb3.size hb7;clear HOC hq7 hb hbb i0 i1 i2 i3 i4 i5 i6 li y0 lbw
   cases rb with
   | true=>
    have HX:=hE (HPO.out (HN.out rfl));go_wp2_with fail
    go_ret
    exact ⟨z0a HX.out.symm,hbb7⟩
   | false=>
    have HX:=hE (HS.out rfl);go_wp2_with fail
    go_roundw
    case rel=>
     have hk1:j+1≤pl.length:=hltj;refine ⟨j+1,hk1,by go_num,hb7,?_⟩;exact HX
    case measure=>simp[intOf];omega
  ·have hji:¬(j:Int) < (pl.length:Int):=by omega
   have HPD2:=hE (HPD.out (x42 HJ.out hltj))
   rename World=>w4
   have hbx4:=HBX.out w4 hb;have HT:=hE (z3t rv w4 (hrv.now hbb) n2 n5 n7);have xr:=hbx4.2.2;have x0:=xr.cell 0;have x1:=xr.cell 1;have x2:=xr.cell 2;have x3:=xr.cell 3;have x4:=xr.cell 4;have x5:=xr.cell 5;have x6:=xr.cell 6;have x7:=xr.cell 7;have x8:=xr.cell 8;have x9:=xr.cell 9;have x10:=xr.cell 10;have x11:=xr.cell 11;have x12:=xr.cell 12;have x13:=xr.cell 13;have lx:=xr.lt;simp only[gqA,gqZ,gqS] at x0 x1 x2 x3 x4 x5 x6 x7 x8 x9 x10 x11 x12 x13;clear xr HPO HPD HJ;go_wp2_with fail
   refine HT.out.mono ?_;rintro e w5 ⟨A5,c5,rfl,ho5,hq5⟩;have hb5:=z00 hb hb.size hq5;have hbb5:=z00 hb3 hb3.size hb5;clear x0 x1 x2 x3 x4 x5 x6 x7 x8 x9 x10 x11 x12 x13 lx HT hq5 hbx4;have hsl2:(z1t rv.r).length≤90000:=by omega
   generalize z1t rv.r=st at *;go_wp2_with fail
   go_loopw [30] (fun n wr=>∃ j:Nat,j≤st.length∧n=.int .i64 j∧Below w5.heap.size w5 wr∧Hid (j7k v.t i.i.det st j)) (fun n _=>st.length - (intOf n).toNat)
   case atStart=>exact ⟨0,nZ,rfl,bQ,hE (by unfold j7k;simp)⟩
   case round=>
    rename World=>wz
    obtain ⟨j2,hjl2,rfl,hbz,HJ⟩:=hrel;have hb5z:=z00 hb5 hb5.size hbz;have hbbz:=z00 hb3 hb3.size hb5z;by_cases hlt2:j2 < st.length
    ·have hji2:(j2:Int) < (st.length:Int):=by omega
     obtain ⟨b,off,hA,lb,hoj,y0,y1⟩:=(ho5.now hbz).rdn.2.elG hlt2;have lbw:b < wz.heap.size:=lb.2;have HSJ:=hE (z7d (p:=fun x=>decide (i.i.det[(plF v.t x.el).toNat]? = some x.pos)) hlt2);have HNJ:=hE (y2y (p:=fun x=>decide (i.i.det[(plF v.t x.el).toNat]? = some x.pos)) hlt2);have hym:=HPT.out _ (uE hlt2);obtain ⟨m,hm,hm1,-⟩:=y3z HCK.out hym;obtain ⟨W8,hW8⟩:∃ W,W=wz.alloc (.cells #[.int .i64 st[j2].el,.int .i64 st[j2].pos] 78):=⟨_,rfl⟩
     have hbe8:Below wz.heap.size wz W8:=by rw[hW8];exact bQ.alloc nL _
     have hxy:Blk W8 wz.heap.size 78 #[.int .i64 st[j2].el,.int .i64 st[j2].pos]:=by rw[hW8];exact Blk.new _ _ _ _ rfl
     have hb8:=z00 hb5z hb5z.size hbe8;have hbb8:=z00 hb3 hb3.size hb8;have HIX:=hE (z4a v st[j2].el W8 (hr.now hbb8) hym);rw[hm] at HIX;have HMM:Hid ((plF v.t st[j2].el).toNat=m):=hE (by rw[hm];rfl);have hbx8:=HBX.out wz hb5z;have t0:=hbx8.1.cell 0;have t1:=hbx8.1.cell 1;have t2:=hbx8.1.cell 2;have t3:=hbx8.1.cell 3;have t4:=hbx8.1.cell 4;have lt:=hbx8.1.lt;simp only[gqA,gqZ,gqS] at t0 t1 t2 t3 t4;rw[hA];generalize st[j2]=y at *;clear hA hm hym hbx8 lb;go_wp2_with fail
     rw[←hW8];clear hW8;refine HIX.out.mono ?_;rintro e w9 ⟨rfl,hq9⟩;have hb9:=z00 hb8 hb8.size hq9;have hbb9:=z00 hb3 hb3.size hb9;have hbz9:=z00 hbz hbz.size (hbe8.trans (hq9.mono hbe8.size));have hxy9:=hxy.now hq9;have hbx9:=HBX.out w9 hb9;have i1:=hbx9.2.1.cell 1;have li:=hbx9.2.1.lt;have u1:=hxy9.cell 1;have lu:=hxy9.lt;simp only[gqA,gqZ,gqS] at i1 u1;clear HIX t0 t1 t2 t3 t4 lt hxy hq9 hb8 hbb8 hbe8 hbz hb5z hbbz y0 y1 hxy9 hbx9;by_cases hmd:m < i.i.det.length;case neg=>
      have hmi:(i.i.det.length:Int)≤(m:Int):=by omega
      have HX:Hid (y8z v.t i.i rv.r=false):=hE (by
       rw[HPD2.out];refine HNJ.out ?_;rw[HMM.out,List.getElem?_eq_none (by omega)];rfl)
      go_wp2_with fail
      (refine wp_region_quiet_lit (by kernel_rfl) (by kernel_rfl) ?_;(repeat (any_goals (first | go_big_quiet_step (fail) | quiet_step (fail) | (refine wpQuiet_step (fun K hK=>?_);go_simp;split <;> (refine hK _ ?_;clear hK K)))));all_goals (refine wpQuiet_nil ?_;intro _ hw';obtain ⟨nq,hw''⟩:=hw';subst hw''))
      all_goals (go_wp2_with fail)
      go_ret;exact ⟨z0a HX.out.symm,Below.drewN hbb9 _⟩
     case pos=>
     have hmi:(m:Int) < (i.i.det.length:Int):=by omega
     have hmi2:¬(i.i.det.length:Int)≤(m:Int):=by omega
     obtain ⟨bd,offd,hAd,lbd,hod,zd⟩:=(hi.now hbb9).r2.elI hmd;rw[hAd] at i1;have HD:Hid (i.i.det[m]? = some i.i.det[m]):=hE (gqE hmd);have lbd':bd < w9.heap.size:=lbd;clear hAd lbd;generalize i.i.det[m]=d at *;by_cases hd:d=y.pos
     ·have t1:(d != y.pos)=false:=by rw[hd];exact bne_self_eq_false _
      have HX:Hid (j7k v.t i.i.det st (j2+1)):=hE (by
       have h1:(st.take j2).all (fun x=>decide (i.i.det[(plF v.t x.el).toNat]? = some x.pos))=true:=HJ.out;unfold j7k;rw[HSJ.out,h1,HMM.out,HD.out,hd];simp)
      clear hd;go_wp2_with fail
      (refine wp_region_quiet_lit (by kernel_rfl) (by kernel_rfl) ?_;(repeat (any_goals (first | go_big_quiet_step (fail) | quiet_step (fail) | (refine wpQuiet_step (fun K hK=>?_);go_simp;split <;> (refine hK _ ?_;clear hK K)))));all_goals (refine wpQuiet_nil ?_;intro _ hw';obtain ⟨nq,hw''⟩:=hw';subst hw''))
      all_goals (go_wp2_with fail)
      go_roundw
      case rel=>
       have hk1:j2+1≤st.length:=hlt2;refine ⟨j2+1,hk1,by go_num,Below.drewN hbz9 _,?_⟩;exact HX
      case measure=>simp[intOf];omega
     ·have t1:(d != y.pos)=true:=bne_iff_ne.2 hd;have HX:Hid (y8z v.t i.i rv.r=false):=hE (by
       rw[HPD2.out];refine HNJ.out ?_;rw[HMM.out,HD.out];exact dFf fun h=>hd (sJ h))
      clear hd;go_wp2_with fail
      (refine wp_region_quiet_lit (by kernel_rfl) (by kernel_rfl) ?_;(repeat (any_goals (first | go_big_quiet_step (fail) | quiet_step (fail) | (refine wpQuiet_step (fun K hK=>?_);go_simp;split <;> (refine hK _ ?_;clear hK K)))));all_goals (refine wpQuiet_nil ?_;intro _ hw';obtain ⟨nq,hw''⟩:=hw';subst hw''))
      all_goals (go_wp2_with fail)
      go_ret;exact ⟨z0a HX.out.symm,Below.drewN hbb9 _⟩
    ·have hji2:¬(j2:Int) < (st.length:Int):=by omega
     have HX:Hid (y8z v.t i.i rv.r=true):=hE (by
      have h1:(st.take j2).all (fun x=>decide (i.i.det[(plF v.t x.el).toNat]? = some x.pos))=true:=HJ.out;rw[tlL (by omega)] at h1;rw[HPD2.out,h1])
     go_wp2_with fail;go_ret
     exact ⟨z0a HX.out.symm,hbbz⟩
def rsV (x:RSt):Value:=.agg #[.int .i64 x.st,.int .i64 x.rel,.int .i64 x.tim]
theorem x77 {l:List Int} (h:0 < l.length):l.headD 0=l[0]:=by cases l with | nil=>simp at h | cons a t=>rfl
theorem y2r (v:z1q) (i:z3o) (rv:z2t) (o:RSt) (cla pas can emp:Bool) (w:World) (hr:TvR w v) (hi:y2t w i) (hrv:RvR w (Lt w) rv) (hck:z4p v.t=0) (hm:rv.r∈v.t.rts) (hS:j4e rv.r):Calls Tryz.prog 66 #[.agg #[.slice v.A1 v.t.rts.length v.c1,.slice v.A2 v.t.pts.length v.c2,.slice v.A3 v.t.homes.length v.c3,.int .i64 v.t.nsec,.int .i64 v.t.nsig,.slice i.A1 i.i.occ.length i.c1,.slice i.A2 i.i.det.length i.c2,.slice i.A3 i.i.clo.length i.c3,.slice i.A4 i.i.cla.length i.c4,.slice i.A5 i.i.pas.length i.c5,.slice i.A6 i.i.calls.length i.c6,.slice i.A7 i.i.cans.length i.c7,.string (bs rv.r.name),.int .i64 rv.r.ent,.int .i64 rv.r.ext,.slice rv.A1 rv.r.path.length rv.c1,.slice rv.A2 rv.r.pts.length rv.c2,.slice rv.A3 rv.r.secs.length rv.c3,.int .i64 rv.r.app,.int .i64 rv.r.len,.slice rv.A4 rv.r.over.length rv.c4,.slice rv.A5 rv.r.opts.length rv.c5,.slice rv.A6 rv.r.osecs.length rv.c6,.slice rv.A7 rv.r.flk.length rv.c7,.slice rv.A8 rv.r.grd.length rv.c8,.slice rv.A9 rv.r.gap.length rv.c9,.int .i64 o.st,.int .i64 o.rel,.int .i64 o.tim,.bool cla,.bool pas,.bool can,.bool emp]] w fun e w'=>e=.returned (rsV (y1x v.t i.i rv.r cla can))∧Below w.heap.size w w':=by
 obtain ⟨W2,hW2⟩:∃ W,W=(w.alloc (.cells #[.slice v.A1 v.t.rts.length v.c1,.slice v.A2 v.t.pts.length v.c2,.slice v.A3 v.t.homes.length v.c3,.int .i64 v.t.nsec,.int .i64 v.t.nsig,.slice i.A1 i.i.occ.length i.c1,.slice i.A2 i.i.det.length i.c2,.slice i.A3 i.i.clo.length i.c3,.slice i.A4 i.i.cla.length i.c4,.slice i.A5 i.i.pas.length i.c5,.slice i.A6 i.i.calls.length i.c6,.slice i.A7 i.i.cans.length i.c7,.string (bs rv.r.name),.int .i64 rv.r.ent,.int .i64 rv.r.ext,.slice rv.A1 rv.r.path.length rv.c1,.slice rv.A2 rv.r.pts.length rv.c2,.slice rv.A3 rv.r.secs.length rv.c3,.int .i64 rv.r.app,.int .i64 rv.r.len,.slice rv.A4 rv.r.over.length rv.c4,.slice rv.A5 rv.r.opts.length rv.c5,.slice rv.A6 rv.r.osecs.length rv.c6,.slice rv.A7 rv.r.flk.length rv.c7,.slice rv.A8 rv.r.grd.length rv.c8,.slice rv.A9 rv.r.gap.length rv.c9,.int .i64 o.st,.int .i64 o.rel,.int .i64 o.tim,.bool cla,.bool pas,.bool can,.bool emp] 125)).alloc (.cells #[.int .i64 0,.int .i64 0,.int .i64 0] 58):=⟨_,rfl⟩
 have hb2:Below w.heap.size w W2:=by rw[hW2];exact (bQ.alloc nL _).alloc (by simp) _
 have hv:Blk W2 w.heap.size 125 #[.slice v.A1 v.t.rts.length v.c1,.slice v.A2 v.t.pts.length v.c2,.slice v.A3 v.t.homes.length v.c3,.int .i64 v.t.nsec,.int .i64 v.t.nsig,.slice i.A1 i.i.occ.length i.c1,.slice i.A2 i.i.det.length i.c2,.slice i.A3 i.i.clo.length i.c3,.slice i.A4 i.i.cla.length i.c4,.slice i.A5 i.i.pas.length i.c5,.slice i.A6 i.i.calls.length i.c6,.slice i.A7 i.i.cans.length i.c7,.string (bs rv.r.name),.int .i64 rv.r.ent,.int .i64 rv.r.ext,.slice rv.A1 rv.r.path.length rv.c1,.slice rv.A2 rv.r.pts.length rv.c2,.slice rv.A3 rv.r.secs.length rv.c3,.int .i64 rv.r.app,.int .i64 rv.r.len,.slice rv.A4 rv.r.over.length rv.c4,.slice rv.A5 rv.r.opts.length rv.c5,.slice rv.A6 rv.r.osecs.length rv.c6,.slice rv.A7 rv.r.flk.length rv.c7,.slice rv.A8 rv.r.grd.length rv.c8,.slice rv.A9 rv.r.gap.length rv.c9,.int .i64 o.st,.int .i64 o.rel,.int .i64 o.tim,.bool cla,.bool pas,.bool can,.bool emp]:=by rw[hW2];exact (Blk.new _ _ _ _ rfl).alloc _
 have hz:Blk W2 (w.heap.size+1) 58 #[.int .i64 0,.int .i64 0,.int .i64 0]:=by rw[hW2];exact Blk.new _ _ _ _ (by simp)
 have hn3:=hrv.o.n3;have hc3:=hn3.2;have hm3:=hn3.1;unfold maxLen at hm3;clear hn3;have hpos:0 < rv.r.secs.length:=List.length_pos_iff.2 ((y0r hck).sec _ hm).2.2;obtain ⟨b3,off3,hA3,lb3,ho3,q0⟩:=(hrv.now hb2).r3.elI hpos;rw[Nat.add_zero] at q0;have HA3:=hE hA3;have hki:(0:Int) < (rv.r.secs.length:Int):=by omega
 have HX0:Hid (y1x v.t i.i rv.r cla can=if z2j i.i.occ rv.r.secs[0]=true then ⟨3,0,0⟩ else if (can && (!cla && !z2j i.i.occ rv.r.app))=true then zS else if (can || !y8z v.t i.i rv.r)=true then ⟨4,0,0⟩ else ⟨2,0,0⟩):=hE (by unfold y1x;rw[x77 hpos]);have HO1:=hE fun W' (h:Below W2.heap.size W2 W')=>z1o i rv.r.secs[0] W' (hi.now (z00 hb2 hb2.size h))
 have HO2:=hE fun W' (h:Below W2.heap.size W2 W')=>z1o i rv.r.app W' (hi.now (z00 hb2 hb2.size h))
 have HPR:=hE fun W' (h:Below W2.heap.size W2 W')=>y2n v i rv W' (hr.now (z00 hb2 hb2.size h)) (hi.now (z00 hb2 hb2.size h)) (hrv.now (z00 hb2 hb2.size h)) hck hm hS
 unfold z0f at HPR;rw[hA3] at HPR;generalize rv.r.secs[0]=s0 at *;obtain ⟨d0,hd0⟩:∃ c,z2j i.i.occ s0=c:=⟨_,rfl⟩
 obtain ⟨d1,hd1⟩:∃ c,z2j i.i.occ rv.r.app=c:=⟨_,rfl⟩
 obtain ⟨d2,hd2⟩:∃ c,y8z v.t i.i rv.r=c:=⟨_,rfl⟩
 rw[hd0,hd1,hd2] at HX0;rw[hd0] at HO1;rw[hd1] at HO2;rw[hd2] at HPR;have lb3':b3 < W2.heap.size:=lb3;have hvl:=hv.lt;have HSS:Hid (∀ W,Below W2.heap.size W2 W→(fun w'=>w'.cell? ⟨w.heap.size,5,none⟩=some (.slice i.A1 i.i.occ.length i.c1)∧w'.cell? ⟨w.heap.size,6,none⟩=some (.slice i.A2 i.i.det.length i.c2)∧w'.cell? ⟨w.heap.size,7,none⟩=some (.slice i.A3 i.i.clo.length i.c3)∧w'.cell? ⟨w.heap.size,8,none⟩=some (.slice i.A4 i.i.cla.length i.c4)∧w'.cell? ⟨w.heap.size,9,none⟩=some (.slice i.A5 i.i.pas.length i.c5)∧w'.cell? ⟨w.heap.size,10,none⟩=some (.slice i.A6 i.i.calls.length i.c6)∧w'.cell? ⟨w.heap.size,11,none⟩=some (.slice i.A7 i.i.cans.length i.c7)∧w'.cell? ⟨w.heap.size,17,none⟩=some (.slice (some ⟨b3,off3,none⟩) rv.r.secs.length rv.c3)∧w'.cell? ⟨b3,off3,none⟩=some (.int .i64 s0)∧Below W2.heap.size W2 w') W):=hE fun W h=>⟨(h.cell (p:=⟨w.heap.size,5,none⟩) hvl).trans (hv.cell 5),(h.cell (p:=⟨w.heap.size,6,none⟩) hvl).trans (hv.cell 6),(h.cell (p:=⟨w.heap.size,7,none⟩) hvl).trans (hv.cell 7),(h.cell (p:=⟨w.heap.size,8,none⟩) hvl).trans (hv.cell 8),(h.cell (p:=⟨w.heap.size,9,none⟩) hvl).trans (hv.cell 9),(h.cell (p:=⟨w.heap.size,10,none⟩) hvl).trans (hv.cell 10),(h.cell (p:=⟨w.heap.size,11,none⟩) hvl).trans (hv.cell 11),(h.cell (p:=⟨w.heap.size,17,none⟩) hvl).trans ((hv.cell 17).trans (by rw[HA3.out];rfl)),(h.cell (p:=⟨b3,off3,none⟩) lb3').trans q0,h⟩
 clear hA3 hd0 hd1 hd2 hck hm hS lb3 ho3;go_enter Tryz.func66,Tryz.ntmps66
 go_wp2_with fail;rw[←hW2];clear hW2;refine rgS 9 HSS fun hHeld=>?_
 refine tkM 7 [0,1,2,3,4,5,6] ?_;refine rd1 7 rfl fun K hK=>?_
 go_simp;go_at_call 110
 refine (HO1.out _ bQ.drew).mono ?_;rintro e w3 ⟨rfl,hq3⟩;have hq3':Below W2.heap.size W2 w3:=bQ.drew.trans hq3;go_wp2_with fail
 refine hK.out _ _ (HSS.out _ hq3') (fun hHeld=>?_);clear hK K;try simp only[Act.put,lsa,lsz,lss]
 refine tkM 1 [8] ?_;refine wdn ?_;have hb3:=z00 hb2 hb2.size hq3';have hv3:=hv.now hq3';have hz3:=hz.now hq3';clear HSS HO1 hq3 hHeld q0 lb3' hvl
 cases d0 with
 | true=>
  have HX:Hid (⟨3,0,0⟩=y1x v.t i.i rv.r cla can):=hE (by rw[HX0.out];rfl);have r0:=hz3.cell 0;have r1:=hz3.cell 1;have r2:=hz3.cell 2;have rf:=hz3.free;have rl:=hz3.lt;simp only[gqA,gqZ,gqS] at r0 r1 r2;have HF:=hE (aIq (((hz3.set 0 (.int .i64 3)).set 1 (.int .i64 0)).set 2 (.int .i64 0)) (((hb3.setCell (p:=⟨w.heap.size+1,0,none⟩) (by simp) (.int .i64 3)).setCell (p:=⟨w.heap.size+1,1,none⟩) (by simp) (.int .i64 0)).setCell (p:=⟨w.heap.size+1,2,none⟩) (by simp) (.int .i64 0)));go_wp2_with fail
  obtain ⟨p,hbf⟩:=HF.out;have p0:=p.cell 0;have p1:=p.cell 1;have p2:=p.cell 2;have pl:=p.lt;simp only[gqA,gqZ,gqS,lsz,lss,lsa] at p0 p1 p2
  exact bodyPost_ret (v:=.agg #[.int .i64 3,.int .i64 0,.int .i64 0]) (by simp[results,Tryz.results66,go_sem,p0,p1,p2,pl]) rfl ⟨by rw[←HX.out];rfl,hbf⟩
 | false=>
  have x29:=hv3.cell 29;have x31:=hv3.cell 31;have xl:=hv3.lt;simp only[gqA,gqZ,gqS] at x29 x31
  cases can with
  | false=>
   have y0:=hv3.cell 0;have y1:=hv3.cell 1;have y2:=hv3.cell 2;have y3:=hv3.cell 3;have y4:=hv3.cell 4;have y5:=hv3.cell 5;have y6:=hv3.cell 6;have y7:=hv3.cell 7;have y8:=hv3.cell 8;have y9:=hv3.cell 9;have y10:=hv3.cell 10;have y11:=hv3.cell 11;have y12:=hv3.cell 12;have y13:=hv3.cell 13;have y14:=hv3.cell 14;have y15:=hv3.cell 15;have y16:=hv3.cell 16;have y17:=(hv3.cell 17).trans (by rw[HA3.out];rfl:_=some (Value.slice (some ⟨b3,off3,none⟩) rv.r.secs.length rv.c3));have y18:=hv3.cell 18;have y19:=hv3.cell 19;have y20:=hv3.cell 20;have y21:=hv3.cell 21;have y22:=hv3.cell 22;have y23:=hv3.cell 23;have y24:=hv3.cell 24;have y25:=hv3.cell 25;have y26:=hv3.cell 26;have y27:=hv3.cell 27;have y28:=hv3.cell 28;have y29:=hv3.cell 29;have y30:=hv3.cell 30;have y31:=hv3.cell 31;have yl:=hv3.lt;simp only[gqA,gqZ,gqS] at y0 y1 y2 y3 y4 y5 y6 y7 y8 y9 y10 y11 y12 y13 y14 y15 y16 y18 y19 y20 y21 y22 y23 y24 y25 y26 y27 y28 y29 y30 y31;go_wp2_with fail
   refine (HPR.out _ hq3').mono ?_;rintro e w8 ⟨rfl,hq8⟩;have hb8:=z00 hb3 hb3.size hq8;have hz8:=hz3.now hq8;clear y0 y1 y2 y3 y4 y5 y6 y7 y8 y9 y10 y11 y12 y13 y14 y15 y16 y17 y18 y19 y20 y21 y22 y23 y24 y25 y26 y27 y28 y29 y30 y31
   cases d2 with
   | true=>
    have HX:Hid (⟨2,0,0⟩=y1x v.t i.i rv.r cla false):=hE (by rw[HX0.out];rfl);have r0:=hz8.cell 0;have r1:=hz8.cell 1;have r2:=hz8.cell 2;have rf:=hz8.free;have rl:=hz8.lt;simp only[gqA,gqZ,gqS] at r0 r1 r2;have HF:=hE (aIq (((hz8.set 0 (.int .i64 2)).set 1 (.int .i64 0)).set 2 (.int .i64 0)) (((hb8.setCell (p:=⟨w.heap.size+1,0,none⟩) (by simp) (.int .i64 2)).setCell (p:=⟨w.heap.size+1,1,none⟩) (by simp) (.int .i64 0)).setCell (p:=⟨w.heap.size+1,2,none⟩) (by simp) (.int .i64 0)));go_wp2_with fail
    obtain ⟨p,hbf⟩:=HF.out;have p0:=p.cell 0;have p1:=p.cell 1;have p2:=p.cell 2;have pl:=p.lt;simp only[gqA,gqZ,gqS,lsz,lss,lsa] at p0 p1 p2
    exact bodyPost_ret (v:=.agg #[.int .i64 2,.int .i64 0,.int .i64 0]) (by simp[results,Tryz.results66,go_sem,p0,p1,p2,pl]) rfl ⟨by rw[←HX.out];rfl,hbf⟩
   | false=>
    have HX:Hid (⟨4,0,0⟩=y1x v.t i.i rv.r cla false):=hE (by rw[HX0.out];rfl);have r0:=hz8.cell 0;have r1:=hz8.cell 1;have r2:=hz8.cell 2;have rf:=hz8.free;have rl:=hz8.lt;simp only[gqA,gqZ,gqS] at r0 r1 r2;have HF:=hE (aIq (((hz8.set 0 (.int .i64 4)).set 1 (.int .i64 0)).set 2 (.int .i64 0)) (((hb8.setCell (p:=⟨w.heap.size+1,0,none⟩) (by simp) (.int .i64 4)).setCell (p:=⟨w.heap.size+1,1,none⟩) (by simp) (.int .i64 0)).setCell (p:=⟨w.heap.size+1,2,none⟩) (by simp) (.int .i64 0)));go_wp2_with fail
    obtain ⟨p,hbf⟩:=HF.out;have p0:=p.cell 0;have p1:=p.cell 1;have p2:=p.cell 2;have pl:=p.lt;simp only[gqA,gqZ,gqS,lsz,lss,lsa] at p0 p1 p2
    exact bodyPost_ret (v:=.agg #[.int .i64 4,.int .i64 0,.int .i64 0]) (by simp[results,Tryz.results66,go_sem,p0,p1,p2,pl]) rfl ⟨by rw[←HX.out];rfl,hbf⟩
  | true=>
   cases cla with
   | true=>
    have HX:Hid (⟨4,0,0⟩=y1x v.t i.i rv.r true true):=hE (by rw[HX0.out];rfl);have r0:=hz3.cell 0;have r1:=hz3.cell 1;have r2:=hz3.cell 2;have rf:=hz3.free;have rl:=hz3.lt;simp only[gqA,gqZ,gqS] at r0 r1 r2;have HF:=hE (aIq (((hz3.set 0 (.int .i64 4)).set 1 (.int .i64 0)).set 2 (.int .i64 0)) (((hb3.setCell (p:=⟨w.heap.size+1,0,none⟩) (by simp) (.int .i64 4)).setCell (p:=⟨w.heap.size+1,1,none⟩) (by simp) (.int .i64 0)).setCell (p:=⟨w.heap.size+1,2,none⟩) (by simp) (.int .i64 0)));go_wp2_with fail
    obtain ⟨p,hbf⟩:=HF.out;have p0:=p.cell 0;have p1:=p.cell 1;have p2:=p.cell 2;have pl:=p.lt;simp only[gqA,gqZ,gqS,lsz,lss,lsa] at p0 p1 p2
    exact bodyPost_ret (v:=.agg #[.int .i64 4,.int .i64 0,.int .i64 0]) (by simp[results,Tryz.results66,go_sem,p0,p1,p2,pl]) rfl ⟨by rw[←HX.out];rfl,hbf⟩
   | false=>
    have y5:=hv3.cell 5;have y6:=hv3.cell 6;have y7:=hv3.cell 7;have y8:=hv3.cell 8;have y9:=hv3.cell 9;have y10:=hv3.cell 10;have y11:=hv3.cell 11;have y18:=hv3.cell 18;have yl:=hv3.lt;simp only[gqA,gqZ,gqS] at y5 y6 y7 y8 y9 y10 y11 y18;go_wp2_with fail
    refine (HO2.out _ hq3').mono ?_;rintro e w8 ⟨rfl,hq8⟩;have hb8:=z00 hb3 hb3.size hq8;have hv8:=hv3.now hq8;have hz8:=hz3.now hq8;clear y5 y6 y7 y8 y9 y10 y11 y18 yl
    cases d1 with
    | false=>
     have HX:Hid (zS=y1x v.t i.i rv.r false true):=hE (by rw[HX0.out];rfl);have r0:=hz8.cell 0;have r1:=hz8.cell 1;have r2:=hz8.cell 2;have rf:=hz8.free;have rl:=hz8.lt;simp only[gqA,gqZ,gqS] at r0 r1 r2;have HF:=hE (aIq (((hz8.set 0 (.int .i64 0)).set 1 (.int .i64 0)).set 2 (.int .i64 0)) (((hb8.setCell (p:=⟨w.heap.size+1,0,none⟩) (by simp) (.int .i64 0)).setCell (p:=⟨w.heap.size+1,1,none⟩) (by simp) (.int .i64 0)).setCell (p:=⟨w.heap.size+1,2,none⟩) (by simp) (.int .i64 0)));go_wp2_with fail
     obtain ⟨p,hbf⟩:=HF.out;have p0:=p.cell 0;have p1:=p.cell 1;have p2:=p.cell 2;have pl:=p.lt;simp only[gqA,gqZ,gqS,lsz,lss,lsa] at p0 p1 p2
     exact bodyPost_ret (v:=.agg #[.int .i64 0,.int .i64 0,.int .i64 0]) (by simp[results,Tryz.results66,go_sem,p0,p1,p2,pl]) rfl ⟨by rw[←HX.out];rfl,hbf⟩
    | true=>
     have z31:=hv8.cell 31;have zl:=hv8.lt;simp only[gqA,gqZ,gqS] at z31;have HX:Hid (⟨4,0,0⟩=y1x v.t i.i rv.r false true):=hE (by rw[HX0.out];rfl);have r0:=hz8.cell 0;have r1:=hz8.cell 1;have r2:=hz8.cell 2;have rf:=hz8.free;have rl:=hz8.lt;simp only[gqA,gqZ,gqS] at r0 r1 r2;have HF:=hE (aIq (((hz8.set 0 (.int .i64 4)).set 1 (.int .i64 0)).set 2 (.int .i64 0)) (((hb8.setCell (p:=⟨w.heap.size+1,0,none⟩) (by simp) (.int .i64 4)).setCell (p:=⟨w.heap.size+1,1,none⟩) (by simp) (.int .i64 0)).setCell (p:=⟨w.heap.size+1,2,none⟩) (by simp) (.int .i64 0)));go_wp2_with fail
     obtain ⟨p,hbf⟩:=HF.out;have p0:=p.cell 0;have p1:=p.cell 1;have p2:=p.cell 2;have pl:=p.lt;simp only[gqA,gqZ,gqS,lsz,lss,lsa] at p0 p1 p2;exact bodyPost_ret (v:=.agg #[.int .i64 4,.int .i64 0,.int .i64 0]) (by simp[results,Tryz.results66,go_sem,p0,p1,p2,pl]) rfl ⟨by rw[←HX.out];rfl,hbf⟩
theorem x5h (v:z1q) (i:z3o) (rv:z2t) (o:RSt) (cla pas can emp:Bool) (w:World) (hr:TvR w v) (hi:y2t w i) (hrv:RvR w (Lt w) rv) (hrel:∃ k:Nat,o.rel=k∧k < rv.r.secs.length) (htim:0≤o.tim∧o.tim < 12):Calls Tryz.prog 68 #[.agg #[.slice v.A1 v.t.rts.length v.c1,.slice v.A2 v.t.pts.length v.c2,.slice v.A3 v.t.homes.length v.c3,.int .i64 v.t.nsec,.int .i64 v.t.nsig,.slice i.A1 i.i.occ.length i.c1,.slice i.A2 i.i.det.length i.c2,.slice i.A3 i.i.clo.length i.c3,.slice i.A4 i.i.cla.length i.c4,.slice i.A5 i.i.pas.length i.c5,.slice i.A6 i.i.calls.length i.c6,.slice i.A7 i.i.cans.length i.c7,.string (bs rv.r.name),.int .i64 rv.r.ent,.int .i64 rv.r.ext,.slice rv.A1 rv.r.path.length rv.c1,.slice rv.A2 rv.r.pts.length rv.c2,.slice rv.A3 rv.r.secs.length rv.c3,.int .i64 rv.r.app,.int .i64 rv.r.len,.slice rv.A4 rv.r.over.length rv.c4,.slice rv.A5 rv.r.opts.length rv.c5,.slice rv.A6 rv.r.osecs.length rv.c6,.slice rv.A7 rv.r.flk.length rv.c7,.slice rv.A8 rv.r.grd.length rv.c8,.slice rv.A9 rv.r.gap.length rv.c9,.int .i64 o.st,.int .i64 o.rel,.int .i64 o.tim,.bool cla,.bool pas,.bool can,.bool emp]] w fun e w'=>e=.returned (rsV (x0g i.i rv.r o cla emp))∧Below w.heap.size w w':=by
 obtain ⟨W2,hW2⟩:∃ W,W=(w.alloc (.cells #[.slice v.A1 v.t.rts.length v.c1,.slice v.A2 v.t.pts.length v.c2,.slice v.A3 v.t.homes.length v.c3,.int .i64 v.t.nsec,.int .i64 v.t.nsig,.slice i.A1 i.i.occ.length i.c1,.slice i.A2 i.i.det.length i.c2,.slice i.A3 i.i.clo.length i.c3,.slice i.A4 i.i.cla.length i.c4,.slice i.A5 i.i.pas.length i.c5,.slice i.A6 i.i.calls.length i.c6,.slice i.A7 i.i.cans.length i.c7,.string (bs rv.r.name),.int .i64 rv.r.ent,.int .i64 rv.r.ext,.slice rv.A1 rv.r.path.length rv.c1,.slice rv.A2 rv.r.pts.length rv.c2,.slice rv.A3 rv.r.secs.length rv.c3,.int .i64 rv.r.app,.int .i64 rv.r.len,.slice rv.A4 rv.r.over.length rv.c4,.slice rv.A5 rv.r.opts.length rv.c5,.slice rv.A6 rv.r.osecs.length rv.c6,.slice rv.A7 rv.r.flk.length rv.c7,.slice rv.A8 rv.r.grd.length rv.c8,.slice rv.A9 rv.r.gap.length rv.c9,.int .i64 o.st,.int .i64 o.rel,.int .i64 o.tim,.bool cla,.bool pas,.bool can,.bool emp] 125)).alloc (.cells #[.int .i64 0,.int .i64 0,.int .i64 0] 58):=⟨_,rfl⟩
 have hb2:Below w.heap.size w W2:=by rw[hW2];exact (bQ.alloc nL _).alloc (by simp) _
 have hv:Blk W2 w.heap.size 125 #[.slice v.A1 v.t.rts.length v.c1,.slice v.A2 v.t.pts.length v.c2,.slice v.A3 v.t.homes.length v.c3,.int .i64 v.t.nsec,.int .i64 v.t.nsig,.slice i.A1 i.i.occ.length i.c1,.slice i.A2 i.i.det.length i.c2,.slice i.A3 i.i.clo.length i.c3,.slice i.A4 i.i.cla.length i.c4,.slice i.A5 i.i.pas.length i.c5,.slice i.A6 i.i.calls.length i.c6,.slice i.A7 i.i.cans.length i.c7,.string (bs rv.r.name),.int .i64 rv.r.ent,.int .i64 rv.r.ext,.slice rv.A1 rv.r.path.length rv.c1,.slice rv.A2 rv.r.pts.length rv.c2,.slice rv.A3 rv.r.secs.length rv.c3,.int .i64 rv.r.app,.int .i64 rv.r.len,.slice rv.A4 rv.r.over.length rv.c4,.slice rv.A5 rv.r.opts.length rv.c5,.slice rv.A6 rv.r.osecs.length rv.c6,.slice rv.A7 rv.r.flk.length rv.c7,.slice rv.A8 rv.r.grd.length rv.c8,.slice rv.A9 rv.r.gap.length rv.c9,.int .i64 o.st,.int .i64 o.rel,.int .i64 o.tim,.bool cla,.bool pas,.bool can,.bool emp]:=by rw[hW2];exact (Blk.new _ _ _ _ rfl).alloc _
 have hz:Blk W2 (w.heap.size+1) 58 #[.int .i64 0,.int .i64 0,.int .i64 0]:=by rw[hW2];exact Blk.new _ _ _ _ (by simp)
 have hn3:=hrv.o.n3;have hc3:=hn3.2;have hm3:=hn3.1;unfold maxLen at hm3;clear hn3;obtain ⟨k,hk,hlt⟩:=hrel;obtain ⟨b3,off3,hA3,lb3,ho3,q0⟩:=(hrv.now hb2).r3.elI hlt;have HA3:=hE hA3;have hki:(k:Int) < (rv.r.secs.length:Int):=by omega
 obtain ⟨st,rel,tim⟩:=o;dsimp only at hk htim hv hW2 ⊢;subst hk;have hwt:IntKind.i64.wrap (tim+1)=tim+1:=IntWalk.i64_in _ (by omega);have HX0:Hid (x0g i.i rv.r ⟨st,(k:Int),tim⟩ cla emp=if z2j i.i.occ rv.r.secs[k]=true then ⟨3,k,0⟩ else if (cla || !emp)=true then ⟨4,k,0⟩ else if tim+1=12 then zS else ⟨4,k,tim+1⟩):=hE (by unfold x0g;simp[List.getD,hlt]);have HO1:=hE fun W' (h:Below W2.heap.size W2 W')=>z1o i rv.r.secs[k] W' (hi.now (z00 hb2 hb2.size h))
 generalize rv.r.secs[k]=s0 at *;obtain ⟨d0,hd0⟩:∃ c,z2j i.i.occ s0=c:=⟨_,rfl⟩
 rw[hd0] at HX0 HO1;have lb3':b3 < W2.heap.size:=lb3;have hvl:=hv.lt;have v27:=hv.cell 27;simp only[gqA,gqZ,gqS] at v27;have HSS:Hid (∀ W,Below W2.heap.size W2 W→(fun w'=>w'.cell? ⟨w.heap.size,5,none⟩=some (.slice i.A1 i.i.occ.length i.c1)∧w'.cell? ⟨w.heap.size,6,none⟩=some (.slice i.A2 i.i.det.length i.c2)∧w'.cell? ⟨w.heap.size,7,none⟩=some (.slice i.A3 i.i.clo.length i.c3)∧w'.cell? ⟨w.heap.size,8,none⟩=some (.slice i.A4 i.i.cla.length i.c4)∧w'.cell? ⟨w.heap.size,9,none⟩=some (.slice i.A5 i.i.pas.length i.c5)∧w'.cell? ⟨w.heap.size,10,none⟩=some (.slice i.A6 i.i.calls.length i.c6)∧w'.cell? ⟨w.heap.size,11,none⟩=some (.slice i.A7 i.i.cans.length i.c7)∧w'.cell? ⟨w.heap.size,17,none⟩=some (.slice (some ⟨b3,off3,none⟩) rv.r.secs.length rv.c3)∧w'.cell? ⟨b3,off3+k,none⟩=some (.int .i64 s0)∧Below W2.heap.size W2 w') W):=hE fun W h=>⟨(h.cell (p:=⟨w.heap.size,5,none⟩) hvl).trans (hv.cell 5),(h.cell (p:=⟨w.heap.size,6,none⟩) hvl).trans (hv.cell 6),(h.cell (p:=⟨w.heap.size,7,none⟩) hvl).trans (hv.cell 7),(h.cell (p:=⟨w.heap.size,8,none⟩) hvl).trans (hv.cell 8),(h.cell (p:=⟨w.heap.size,9,none⟩) hvl).trans (hv.cell 9),(h.cell (p:=⟨w.heap.size,10,none⟩) hvl).trans (hv.cell 10),(h.cell (p:=⟨w.heap.size,11,none⟩) hvl).trans (hv.cell 11),(h.cell (p:=⟨w.heap.size,17,none⟩) hvl).trans ((hv.cell 17).trans (by rw[HA3.out];rfl)),(h.cell (p:=⟨b3,off3+k,none⟩) lb3').trans q0,h⟩
 clear hA3 hd0 lb3 ho3 hlt;go_enter Tryz.func68,Tryz.ntmps68
 go_wp2_with fail;rw[←hW2];clear hW2 v27;refine rgS 9 HSS fun hHeld=>?_
 refine tkM 8 [0,1,2,3,4,5,6,7] ?_;refine rd1 8 rfl fun K hK=>?_
 go_simp;go_at_call 110
 refine (HO1.out _ bQ.drew).mono ?_;rintro e w3 ⟨rfl,hq3⟩;have hq3':Below W2.heap.size W2 w3:=bQ.drew.trans hq3;go_wp2_with fail
 refine hK.out _ _ (HSS.out _ hq3') (fun hHeld=>?_);clear hK K;try simp only[Act.put,lsa,lsz,lss]
 refine wdn ?_;have hb3:=z00 hb2 hb2.size hq3';have hv3:=hv.now hq3';have hz3:=hz.now hq3';clear HSS HO1 hq3 hHeld q0 lb3' hvl
 cases d0 with
 | true=>
  have HX:Hid (⟨3,k,0⟩=x0g i.i rv.r ⟨st,(k:Int),tim⟩ cla emp):=hE (by rw[HX0.out];rfl);have r0:=hz3.cell 0;have r1:=hz3.cell 1;have r2:=hz3.cell 2;have rf:=hz3.free;have rl:=hz3.lt;simp only[gqA,gqZ,gqS] at r0 r1 r2;have HF:=hE (aIq ((((hz3.set 0 (.int .i64 3)).set 1 (.int .i64 (k:Int))).set 2 (.int .i64 0))) ((((hb3.setCell (p:=⟨w.heap.size+1,0,none⟩) (by simp) (.int .i64 3)).setCell (p:=⟨w.heap.size+1,1,none⟩) (by simp) (.int .i64 (k:Int))).setCell (p:=⟨w.heap.size+1,2,none⟩) (by simp) (.int .i64 0))));go_wp2_with fail
  obtain ⟨p,hbf⟩:=HF.out;have p0:=p.cell 0;have p1:=p.cell 1;have p2:=p.cell 2;have pl:=p.lt;simp only[gqA,gqZ,gqS,lsz,lss,lsa] at p0 p1 p2
  exact bodyPost_ret (v:=.agg #[.int .i64 3,.int .i64 (k:Int),.int .i64 0]) (by simp[results,Tryz.results68,go_sem,p0,p1,p2,pl,r0,r1,r2,rl]) rfl ⟨by rw[←HX.out];rfl,hbf⟩
 | false=>
  have x28:=hv3.cell 28;have x29:=hv3.cell 29;have x32:=hv3.cell 32;have xl:=hv3.lt;simp only[gqA,gqZ,gqS] at x28 x29 x32;have hsz3:=hb3.size
  cases cla with
  | true=>
   have HX:Hid (⟨4,k,0⟩=x0g i.i rv.r ⟨st,(k:Int),tim⟩ true emp):=hE (by rw[HX0.out];rfl);have r0:=hz3.cell 0;have r1:=hz3.cell 1;have r2:=hz3.cell 2;have rf:=hz3.free;have rl:=hz3.lt;simp only[gqA,gqZ,gqS] at r0 r1 r2;have HF:=hE (aIq ((((hz3.set 0 (.int .i64 4)).set 1 (.int .i64 (k:Int))).set 2 (.int .i64 0)).alloc (.cells #[.int .i64 4,.int .i64 (k:Int),.int .i64 0] 58)) ((((hb3.setCell (p:=⟨w.heap.size+1,0,none⟩) (by simp) (.int .i64 4)).setCell (p:=⟨w.heap.size+1,1,none⟩) (by simp) (.int .i64 (k:Int))).setCell (p:=⟨w.heap.size+1,2,none⟩) (by simp) (.int .i64 0)).alloc (by simp;omega) (.cells #[.int .i64 4,.int .i64 (k:Int),.int .i64 0] 58)));go_wp2_with fail
   obtain ⟨p,hbf⟩:=HF.out;have p0:=p.cell 0;have p1:=p.cell 1;have p2:=p.cell 2;have pl:=p.lt;simp only[gqA,gqZ,gqS,lsz,lss,lsa] at p0 p1 p2
   exact bodyPost_ret (v:=.agg #[.int .i64 4,.int .i64 (k:Int),.int .i64 0]) (by simp[results,Tryz.results68,go_sem,p0,p1,p2,pl,r0,r1,r2,rl]) rfl ⟨by rw[←HX.out];rfl,hbf⟩
  | false=>
   cases emp with
   | false=>
    have HX:Hid (⟨4,k,0⟩=x0g i.i rv.r ⟨st,(k:Int),tim⟩ false false):=hE (by rw[HX0.out];rfl);have r0:=hz3.cell 0;have r1:=hz3.cell 1;have r2:=hz3.cell 2;have rf:=hz3.free;have rl:=hz3.lt;simp only[gqA,gqZ,gqS] at r0 r1 r2;have HF:=hE (aIq ((((hz3.set 0 (.int .i64 4)).set 1 (.int .i64 (k:Int))).set 2 (.int .i64 0)).alloc (.cells #[.int .i64 4,.int .i64 (k:Int),.int .i64 0] 58)) ((((hb3.setCell (p:=⟨w.heap.size+1,0,none⟩) (by simp) (.int .i64 4)).setCell (p:=⟨w.heap.size+1,1,none⟩) (by simp) (.int .i64 (k:Int))).setCell (p:=⟨w.heap.size+1,2,none⟩) (by simp) (.int .i64 0)).alloc (by simp;omega) (.cells #[.int .i64 4,.int .i64 (k:Int),.int .i64 0] 58)));go_wp2_with fail
    obtain ⟨p,hbf⟩:=HF.out;have p0:=p.cell 0;have p1:=p.cell 1;have p2:=p.cell 2;have pl:=p.lt;simp only[gqA,gqZ,gqS,lsz,lss,lsa] at p0 p1 p2
    exact bodyPost_ret (v:=.agg #[.int .i64 4,.int .i64 (k:Int),.int .i64 0]) (by simp[results,Tryz.results68,go_sem,p0,p1,p2,pl,r0,r1,r2,rl]) rfl ⟨by rw[←HX.out];rfl,hbf⟩
   | true=>
    by_cases ht:tim+1=12
    ·have HX:Hid (zS=x0g i.i rv.r ⟨st,(k:Int),tim⟩ false true):=hE (by rw[HX0.out];simp[ht]);have te:(tim+1==12)=true:=by rw[ht];rfl
     clear ht;have r0:=hz3.cell 0;have r1:=hz3.cell 1;have r2:=hz3.cell 2;have rf:=hz3.free;have rl:=hz3.lt;simp only[gqA,gqZ,gqS] at r0 r1 r2;have HF:=hE (aIq ((((hz3.set 0 (.int .i64 0)).set 1 (.int .i64 0)).set 2 (.int .i64 0)).alloc (.cells #[.int .i64 4,.int .i64 (k:Int),.int .i64 (tim+1)] 58)) ((((hb3.setCell (p:=⟨w.heap.size+1,0,none⟩) (by simp) (.int .i64 0)).setCell (p:=⟨w.heap.size+1,1,none⟩) (by simp) (.int .i64 0)).setCell (p:=⟨w.heap.size+1,2,none⟩) (by simp) (.int .i64 0)).alloc (by simp;omega) (.cells #[.int .i64 4,.int .i64 (k:Int),.int .i64 (tim+1)] 58)));go_wp2_with fail
     obtain ⟨p,hbf⟩:=HF.out;have p0:=p.cell 0;have p1:=p.cell 1;have p2:=p.cell 2;have pl:=p.lt;simp only[gqA,gqZ,gqS,lsz,lss,lsa] at p0 p1 p2;exact bodyPost_ret (v:=.agg #[.int .i64 0,.int .i64 0,.int .i64 0]) (by simp[results,Tryz.results68,go_sem,p0,p1,p2,pl,r0,r1,r2,rl]) rfl ⟨by rw[←HX.out];rfl,hbf⟩
    ·have HX:Hid (⟨4,k,tim+1⟩=x0g i.i rv.r ⟨st,(k:Int),tim⟩ false true):=hE (by rw[HX0.out];simp[ht]);have te:(tim+1==12)=false:=by simpa using ht
     clear ht;have r0:=hz3.cell 0;have r1:=hz3.cell 1;have r2:=hz3.cell 2;have rf:=hz3.free;have rl:=hz3.lt;simp only[gqA,gqZ,gqS] at r0 r1 r2;have HF:=hE (aIq ((((hz3.set 0 (.int .i64 4)).set 1 (.int .i64 (k:Int))).set 2 (.int .i64 (tim+1))).alloc (.cells #[.int .i64 4,.int .i64 (k:Int),.int .i64 (tim+1)] 58)) ((((hb3.setCell (p:=⟨w.heap.size+1,0,none⟩) (by simp) (.int .i64 4)).setCell (p:=⟨w.heap.size+1,1,none⟩) (by simp) (.int .i64 (k:Int))).setCell (p:=⟨w.heap.size+1,2,none⟩) (by simp) (.int .i64 (tim+1))).alloc (by simp;omega) (.cells #[.int .i64 4,.int .i64 (k:Int),.int .i64 (tim+1)] 58)));go_wp2_with fail
     obtain ⟨p,hbf⟩:=HF.out;have p0:=p.cell 0;have p1:=p.cell 1;have p2:=p.cell 2;have pl:=p.lt;simp only[gqA,gqZ,gqS,lsz,lss,lsa] at p0 p1 p2;exact bodyPost_ret (v:=.agg #[.int .i64 4,.int .i64 (k:Int),.int .i64 (tim+1)]) (by simp[results,Tryz.results68,go_sem,p0,p1,p2,pl,r0,r1,r2,rl]) rfl ⟨by rw[←HX.out];rfl,hbf⟩
end Go.Proofs.YtpenlfedkacglaaGreatDoor
namespace Go.Proofs.YtpenlfedkacglaaGreatDoor
open Go.RowKit
attribute [local go_sem] z05 z09 z01 z02
structure j4p (w:World) (S:Nat→Prop) (v:z3o):Prop where
 r1:RdS cB w S v.A1 v.i.occ
 r2:RdS cI w S v.A2 v.i.det
 r3:RdS cB w S v.A3 v.i.clo
 r4:RdS cB w S v.A4 v.i.cla
 r5:RdS cB w S v.A5 v.i.pas
 r6:RdS cI w S v.A6 v.i.calls
 r7:RdS cI w S v.A7 v.i.cans
 n1:v.i.occ.length≤maxLen∧v.i.occ.length≤v.c1
 n2:v.i.det.length≤maxLen∧v.i.det.length≤v.c2
 n3:v.i.clo.length≤maxLen∧v.i.clo.length≤v.c3
 n4:v.i.cla.length≤maxLen∧v.i.cla.length≤v.c4
 n5:v.i.pas.length≤maxLen∧v.i.pas.length≤v.c5
 n6:v.i.calls.length≤maxLen∧v.i.calls.length≤v.c6
 n7:v.i.cans.length≤maxLen∧v.i.cans.length≤v.c7
theorem j4p.rd {w:World} {v:z3o} (h:j4p w (Lt w) v):y2t w v:=⟨h.r1,h.r2,h.r3,h.r4,h.r5,h.r6,h.r7,h.n1,h.n2,h.n3,h.n4,h.n5,h.n6,h.n7⟩
def x65:Cod Inp where
 size:=7
 rd:=fun w S cs i=>∃ v:z3o,v.i=i∧cs=j9z v∧j4p w S v
 fit:=fun _=>True
 len:=fun ⟨_,_,h,_⟩=>by rw[h];rfl
 keep:=fun ⟨v,h1,h2,h⟩ hk=>⟨v,h1,h2,⟨h.r1.keep hk,h.r2.keep hk,h.r3.keep hk,h.r4.keep hk,h.r5.keep hk,h.r6.keep hk,h.r7.keep hk,h.n1,h.n2,h.n3,h.n4,h.n5,h.n6,h.n7⟩⟩
 more:=fun ⟨v,h1,h2,h⟩ hS=>⟨v,h1,h2,⟨h.r1.more hS,h.r2.more hS,h.r3.more hS,h.r4.more hS,h.r5.more hS,h.r6.more hS,h.r7.more hS,h.n1,h.n2,h.n3,h.n4,h.n5,h.n6,h.n7⟩⟩
theorem RdS.elN {w:World} {S:Nat→Prop} {A:Option Addr} {l:List Inp} (h:RdS x65 w S A l) {i:Nat} (hi:i < l.length):∃ b off v,A=some ⟨b,off,none⟩∧S b∧v.i=l[i]∧j4p w S v∧w.cell? ⟨b,off+i*7,none⟩=some (.slice v.A1 v.i.occ.length v.c1)∧w.cell? ⟨b,off+i*7+1,none⟩=some (.slice v.A2 v.i.det.length v.c2)∧w.cell? ⟨b,off+i*7+2,none⟩=some (.slice v.A3 v.i.clo.length v.c3)∧w.cell? ⟨b,off+i*7+3,none⟩=some (.slice v.A4 v.i.cla.length v.c4)∧w.cell? ⟨b,off+i*7+4,none⟩=some (.slice v.A5 v.i.pas.length v.c5)∧w.cell? ⟨b,off+i*7+5,none⟩=some (.slice v.A6 v.i.calls.length v.c6)∧w.cell? ⟨b,off+i*7+6,none⟩=some (.slice v.A7 v.i.cans.length v.c7):=by
 obtain ⟨b,off,h1,h2,h3⟩:=h (by omega);obtain ⟨ys,⟨v,h4,rfl,h5⟩,h6⟩:=h3 i l[i] (gqE hi);exact ⟨b,off,v,h1,h2,h4,h5,h6 0 _ rfl,h6 1 _ rfl,h6 2 _ rfl,h6 3 _ rfl,h6 4 _ rfl,h6 5 _ rfl,h6 6 _ rfl⟩
def j02 (i:Inp):Bool:=decide (i.occ.length≤100) && (decide (i.det.length≤100) && (decide (i.clo.length≤100) && (decide (i.cla.length≤100) && (decide (i.pas.length≤100) && (decide (i.calls.length≤60) && (decide (i.cans.length≤60)))))))
def j4j (l:Lay) (ins:List Inp):Bool:=decide (l.els.length≤40) && (decide (l.jts.length≤80) && (decide (l.sgs.length≤30) && (decide (l.bls.length≤40) && (decide (l.secs.length≤40) && decide (ins.length≤16)))))
def z6o (l:Lay) (ins:List Inp):Bool:=j4j l ins && ins.all j02
theorem j6a {l:Lay} {ins:List Inp} (h:j4j l ins=false):z6o l ins=false:=by unfold z6o;rw[h];rfl
theorem y7a {l:Lay} {ins:List Inp}:j4j l ins=true↔l.els.length≤40∧l.jts.length≤80∧l.sgs.length≤30∧l.bls.length≤40∧l.secs.length≤40∧ins.length≤16:=by simp[j4j]
theorem y7d {i:Inp}:j02 i=true↔i.occ.length≤100∧i.det.length≤100∧i.clo.length≤100∧i.cla.length≤100∧i.pas.length≤100∧i.calls.length≤60∧i.cans.length≤60:=by simp[j02]
def j0c (ins:List Inp) (k:Nat):Prop:=(ins.take k).all j02=true
theorem x7x {ins:List Inp} {k:Nat} (h:j0c ins k) (hk:k < ins.length) (hx:j02 ins[k]=true):j0c ins (k+1):=by
 unfold j0c at h ⊢;rw[tqS hk,List.all_append,h,List.all_cons,hx];rfl
theorem x3m {l:Lay} {ins:List Inp} {k:Nat} (hk:k < ins.length) (hx:j02 ins[k]=false):z6o l ins=false:=by
 unfold z6o;have:ins.all j02=false:=by
  rw[List.all_eq_false];exact ⟨ins[k],uE hk,by rw[hx];decide⟩
 rw[this,Bool.and_false]
theorem x7t {l:Lay} {ins:List Inp} {k:Nat} (h1:j4j l ins=true) (h:j0c ins k) (hk:¬k < ins.length):z6o l ins=true:=by
 unfold z6o;unfold j0c at h;rw[tlL (by omega)] at h;rw[h1,h];rfl
theorem x3l (v:LV) (ins:List Inp) (A:Option Addr) (cap:Nat) (w:World) (hr:LvR w v) (hi:RdS x65 w (Lt w) A ins) (hl:ins.length≤maxLen):Calls Tryz.prog 6 #[lvA v,.slice A ins.length cap] w fun e w'=>e=.returned (.bool (z6o v.l ins))∧Below w.heap.size w w':=by
 have hbx:=Lx.new hr;have hn1:=hr.n1.1;have hn2:=hr.n2.1;have hn3:=hr.n3.1;have hn4:=hr.n4.1;have hn5:=hr.n5.1;unfold maxLen at hl hn1 hn2 hn3 hn4 hn5;have x1:=hbx.x1;have x2:=hbx.x2;have x3:=hbx.x3;have x4:=hbx.x4;have x5:=hbx.x5;have xl:=hbx.lt;unfold lvA
 cases hb:j4j v.l ins with
 | false=>
  have HX:=hE (j6a hb);have HN:=hE (show ¬(v.l.els.length≤40∧v.l.jts.length≤80∧v.l.sgs.length≤30∧v.l.bls.length≤40∧v.l.secs.length≤40∧ins.length≤16) from fun h=>by rw[y7a.2 h] at hb;cases hb);have hbw:=hbx.bel;clear hb hbx;go_enter Tryz.func6,Tryz.ntmps6
  go_wp2_with fail
  all_goals (first | (exfalso;have:=HN.out;omega) | (go_ret;exact ⟨z0a HX.out.symm,hbw⟩))
 | true=>
  obtain ⟨h1,h2,h3,h4,h5,h6⟩:=y7a.1 hb;have t1:¬(40:Int) < (v.l.els.length:Int):=by omega
  have t2:¬(80:Int) < (v.l.jts.length:Int):=by omega
  have t3:¬(30:Int) < (v.l.sgs.length:Int):=by omega
  have t4:¬(40:Int) < (v.l.bls.length:Int):=by omega
  have t5:¬(40:Int) < (v.l.secs.length:Int):=by omega
  have t6:¬(16:Int) < (ins.length:Int):=by omega
  have HB:=hE hb;have hbw:=hbx.bel;have hi2:=hi.now (w':=w.alloc (.cells (z1b v) 28)) (bQ.alloc nL _);have HI:=hE hi2;obtain ⟨W2,hW2⟩:∃ W,W=w.alloc (.cells (z1b v) 28):=⟨_,rfl⟩
  rw[←hW2] at HI hbw x1 x2 x3 x4 x5 xl;clear hb hbx hi2 hi hr;go_enter Tryz.func6,Tryz.ntmps6
  go_upto_region 1 with (fail)
  rw[←hW2];clear hW2;go_wp2_with fail
  clear x1 x2 x3 x4 x5 xl t1 t2 t3 t4 t5 t6;go_loopw [41] (fun n wr=>∃ k:Nat,k≤ins.length∧n=.int .i64 k∧Hid (wr=W2)∧j0c ins k) (fun n _=>ins.length - (intOf n).toNat)
  case atStart=>exact ⟨0,nZ,rfl,hE rfl,by simp[j0c]⟩
  case round=>
   obtain ⟨k,hk,rfl,HWR,hp⟩:=hrel;have hwr:=HWR.out;clear HWR;subst hwr;by_cases hlt:k < ins.length
   ·have hki:(k:Int) < (ins.length:Int):=by omega
    obtain ⟨b,off,iv,hA,lb,hie,hiv,q0,q1,q2,q3,q4,q5,q6⟩:=HI.out.elN hlt;subst hA;have lb':b < wr.heap.size:=lb;have m1:=hiv.n1.1;have m2:=hiv.n2.1;have m3:=hiv.n3.1;have m4:=hiv.n4.1;have m5:=hiv.n5.1;have m6:=hiv.n6.1;have m7:=hiv.n7.1;unfold maxLen at m1 m2 m3 m4 m5 m6 m7
    cases hx:j02 iv.i with
    | false=>
     have HX:=hE (x3m (l:=v.l) hlt (by rw[←hie];exact hx));have HN:=hE (show ¬(iv.i.occ.length≤100∧iv.i.det.length≤100∧iv.i.clo.length≤100∧iv.i.cla.length≤100∧iv.i.pas.length≤100∧iv.i.calls.length≤60∧iv.i.cans.length≤60) from fun h=>by rw[y7d.2 h] at hx;cases hx);clear hx hie hp;go_wp2_with fail
     all_goals (first | (exfalso;have:=HN.out;omega) | (go_ret;exact ⟨z0a HX.out.symm,hbw⟩))
    | true=>
     obtain ⟨h1,h2,h3,h4,h5,h6,h7⟩:=y7d.1 hx;have t1:¬(100:Int) < (iv.i.occ.length:Int):=by omega
     have t2:¬(100:Int) < (iv.i.det.length:Int):=by omega
     have t3:¬(100:Int) < (iv.i.clo.length:Int):=by omega
     have t4:¬(100:Int) < (iv.i.cla.length:Int):=by omega
     have t5:¬(100:Int) < (iv.i.pas.length:Int):=by omega
     have t6:¬(60:Int) < (iv.i.calls.length:Int):=by omega
     have t7:¬(60:Int) < (iv.i.cans.length:Int):=by omega
     have HP:=hE (x7x hp hlt (by rw[←hie];exact hx));clear hx hie hp;go_wp2_with fail
     go_roundw
     case rel=>exact ⟨k+1,hlt,by go_num,hE trivial,HP.out⟩
     case measure=>simp[intOf];omega
   ·have hki:¬(k:Int) < (ins.length:Int):=by omega
    have HX:=hE (x7t (l:=v.l) HB.out hp hlt);clear hp hlt;go_wp2_with fail
    go_ret;exact ⟨z0a HX.out.symm,hbw⟩
end Go.Proofs.YtpenlfedkacglaaGreatDoor
namespace Go.Proofs.YtpenlfedkacglaaGreatDoor
open Go.RowKit
section
variable {P:Program} {t:TypeId}
theorem z5d {α β:Type} {c:Cod α} {d:Cod β} (h:Opens P t c) (hs:c.size=d.size) (hr:∀ (w:World) (S:Nat→Prop) (cs:List Value) (a:α),c.rd w S cs a→c.fit a→∃ b,d.rd w S cs b∧d.fit b):Opens P t d:=
 ⟨h.size.trans hs,fun hx hf=>by obtain ⟨a,ha,hfa⟩:=h.opens hx hf;exact hr _ _ _ _ ha hfa⟩
end
theorem x47:Opens Tryz.prog 103 cE:=by
 have i:=z8g (P:=Tryz.prog) Tryz.underlying3 (by kernel_rfl);refine z5d (c:=cP cS (cP cI (cP cI (cP cI (cP cI (cP cI (cP cI cN))))))) (z6x Tryz.underlying103 (by kernel_rfl) (z08 (by rfl) (y7k Tryz.underlying9 (by kernel_rfl)) (z08 (by rfl) i (z08 (by rfl) i (z08 (by rfl) i (z08 (by rfl) i (z08 (by rfl) i (z08 (by rfl) i z2v)))))))) rfl ?_;rintro w B cs ⟨a,b,c,d,e,f,g,_⟩ ⟨_,_,rfl,⟨rfl,ha⟩,_,_,rfl,⟨rfl,hb⟩,_,_,rfl,⟨rfl,hc⟩,_,_,rfl,⟨rfl,hd⟩,_,_,rfl,⟨rfl,he⟩,_,_,rfl,⟨rfl,hf⟩,_,_,rfl,⟨rfl,hg⟩,rfl⟩ _;exact ⟨⟨a,b,c,d,e,f,g⟩,⟨rfl,ha,hb,hc,hd,he,hf,hg⟩,trivial⟩
theorem y06:Opens Tryz.prog 90 y1u:=by
 have i:=z8g (P:=Tryz.prog) Tryz.underlying3 (by kernel_rfl);refine z5d (c:=cP cI (cP cI cN)) (z6x Tryz.underlying90 (by kernel_rfl) (z08 (by rfl) i (z08 (by rfl) i z2v))) rfl ?_;rintro w B cs ⟨a,b,_⟩ ⟨_,_,rfl,⟨rfl,ha⟩,_,_,rfl,⟨rfl,hb⟩,rfl⟩ _;exact ⟨⟨a,b⟩,⟨rfl,ha,hb⟩,trivial⟩
theorem x49:Opens Tryz.prog 107 cJ:=by
 refine z5d (c:=cP y1u (cP y1u cN)) (z6x Tryz.underlying107 (by kernel_rfl) (z08 (by rfl) y06 (z08 (by rfl) y06 z2v))) rfl ?_;rintro w B cs ⟨a,b,_⟩ ⟨_,_,rfl,⟨rfl,ha⟩,_,_,rfl,⟨rfl,hb⟩,rfl⟩ _;exact ⟨⟨a,b⟩,⟨rfl,ha,hb⟩,trivial⟩
theorem x4b:Opens Tryz.prog 105 cSg:=by
 have i:=z8g (P:=Tryz.prog) Tryz.underlying3 (by kernel_rfl);refine z5d (c:=cP cS (cP y1u (cP cI cN))) (z6x Tryz.underlying105 (by kernel_rfl) (z08 (by rfl) (y7k Tryz.underlying9 (by kernel_rfl)) (z08 (by rfl) y06 (z08 (by rfl) i z2v)))) rfl ?_;rintro w B cs ⟨a,b,c,_⟩ ⟨_,_,rfl,⟨rfl,ha⟩,_,_,rfl,⟨rfl,hb⟩,_,_,rfl,⟨rfl,hc⟩,rfl⟩ _;exact ⟨⟨a,b,c⟩,⟨rfl,ha,hb,hc⟩,trivial⟩
theorem x46:Opens Tryz.prog 184 cBl:=by
 have i:=z8g (P:=Tryz.prog) Tryz.underlying3 (by kernel_rfl);refine z5d (c:=cP cI (cP cI (cP cI cN))) (z6x Tryz.underlying184 (by kernel_rfl) (z08 (by rfl) i (z08 (by rfl) i (z08 (by rfl) i z2v)))) rfl ?_;rintro w B cs ⟨a,b,c,_⟩ ⟨_,_,rfl,⟨rfl,ha⟩,_,_,rfl,⟨rfl,hb⟩,_,_,rfl,⟨rfl,hc⟩,rfl⟩ _;exact ⟨⟨a,b,c⟩,⟨rfl,ha,hb,hc⟩,trivial⟩
def lvC (v:LV):List Value:=[.string (bs v.l.name),.slice v.A1 v.l.secs.length v.c1,.slice v.A2 v.l.els.length v.c2,.slice v.A3 v.l.jts.length v.c3,.slice v.A4 v.l.sgs.length v.c4,.slice v.A5 v.l.bls.length v.c5]
def cLv:Cod LV where
 size:=6
 rd:=fun w S cs v=>cs=lvC v∧v.l.name.length≤maxLen∧((v.l.secs.length≤maxLen∧v.l.secs.length≤v.c1)∧RdS cS w S v.A1 v.l.secs)∧((v.l.els.length≤maxLen∧v.l.els.length≤v.c2)∧RdS cE w S v.A2 v.l.els)∧((v.l.jts.length≤maxLen∧v.l.jts.length≤v.c3)∧RdS cJ w S v.A3 v.l.jts)∧((v.l.sgs.length≤maxLen∧v.l.sgs.length≤v.c4)∧RdS cSg w S v.A4 v.l.sgs)∧((v.l.bls.length≤maxLen∧v.l.bls.length≤v.c5)∧RdS cBl w S v.A5 v.l.bls)
 fit:=fun v=>v.l.jts.length≤140737488351232
 len:=fun h=>by rw[h.1];rfl
 keep:=fun ⟨h0,h1,⟨m1,r1⟩,⟨m2,r2⟩,⟨m3,r3⟩,⟨m4,r4⟩,m5,r5⟩ hk=>⟨h0,h1,⟨m1,r1.keep hk⟩,⟨m2,r2.keep hk⟩,⟨m3,r3.keep hk⟩,⟨m4,r4.keep hk⟩,m5,r5.keep hk⟩
 more:=fun ⟨h0,h1,⟨m1,r1⟩,⟨m2,r2⟩,⟨m3,r3⟩,⟨m4,r4⟩,m5,r5⟩ hk=>⟨h0,h1,⟨m1,r1.more hk⟩,⟨m2,r2.more hk⟩,⟨m3,r3.more hk⟩,⟨m4,r4.more hk⟩,m5,r5.more hk⟩
theorem j5a {w:World} {cs:List Value} {v:LV} (h:cLv.rd w (Lt w) cs v):cs=lvC v∧LvR w v:=by
 obtain ⟨h0,h1,⟨m1,r1⟩,⟨m2,r2⟩,⟨m3,r3⟩,⟨m4,r4⟩,m5,r5⟩:=h;exact ⟨h0,h1,r1,r2,r3,r4,r5,m1,m2,m3,m4,m5⟩
theorem x4a:Opens Tryz.prog 28 cLv:=by
 have i:=z8g (P:=Tryz.prog) Tryz.underlying3 (by kernel_rfl);have s:=y7k (P:=Tryz.prog) Tryz.underlying9 (by kernel_rfl);have s1:=z5w (P:=Tryz.prog) Tryz.underlying22 (by kernel_rfl) s (by decide) (oDt (by kernel_rfl));have s2:=z5w (P:=Tryz.prog) Tryz.underlying23 (by kernel_rfl) x47 (by decide) (oDt (by kernel_rfl));have s3:=z5w (P:=Tryz.prog) Tryz.underlying24 (by kernel_rfl) x49 (by decide) (oDt (by kernel_rfl));have s4:=z5w (P:=Tryz.prog) Tryz.underlying25 (by kernel_rfl) x4b (by decide) (oDt (by kernel_rfl));have s5:=z5w (P:=Tryz.prog) Tryz.underlying26 (by kernel_rfl) x46 (by decide) (oDt (by kernel_rfl));refine z5d (c:=cP cS (cP (cL cS) (cP (cL cE) (cP (cL cJ) (cP (cL cSg) (cP (cL cBl) cN)))))) (z6x Tryz.underlying28 (by kernel_rfl) (z08 (by rfl) s (z08 (by rfl) s1 (z08 (by rfl) s2 (z08 (by rfl) s3 (z08 (by rfl) s4 (z08 (by rfl) s5 z2v))))))) rfl ?_;rintro w B cs ⟨a,b,c,d,e,f,_⟩ ⟨_,_,rfl,⟨rfl,ha⟩,_,_,rfl,⟨A1,c1,rfl,m1,r1⟩,_,_,rfl,⟨A2,c2,rfl,m2,r2⟩,_,_,rfl,⟨A3,c3,rfl,m3,r3⟩,_,_,rfl,⟨A4,c4,rfl,m4,r4⟩,_,_,rfl,⟨A5,c5,rfl,m5,r5⟩,rfl⟩ ⟨_,_,_,⟨hj,_⟩,_⟩;exact ⟨⟨⟨a,b,c,d,e,f⟩,A1,A2,A3,A4,A5,c1,c2,c3,c4,c5⟩,⟨rfl,ha,⟨m1,r1⟩,⟨m2,r2⟩,⟨m3,r3⟩,⟨m4,r4⟩,m5,r5⟩,hj⟩
theorem x48:Opens Tryz.prog 49 x65:=by
 have b:=z5w (P:=Tryz.prog) Tryz.underlying43 (by kernel_rfl) (j2o Tryz.underlying4 (by kernel_rfl)) (by decide) (oDt (by kernel_rfl));have i:=z5w (P:=Tryz.prog) Tryz.underlying31 (by kernel_rfl) (z8g Tryz.underlying3 (by kernel_rfl)) (by decide) (oDt (by kernel_rfl));refine z5d (c:=cP (cL cB) (cP (cL cI) (cP (cL cB) (cP (cL cB) (cP (cL cB) (cP (cL cI) (cP (cL cI) cN))))))) (z6x Tryz.underlying49 (by kernel_rfl) (z08 (by rfl) b (z08 (by rfl) i (z08 (by rfl) b (z08 (by rfl) b (z08 (by rfl) b (z08 (by rfl) i (z08 (by rfl) i z2v)))))))) rfl ?_;rintro w B cs ⟨a,b,c,d,e,f,g,_⟩ ⟨_,_,rfl,⟨A1,c1,rfl,m1,r1⟩,_,_,rfl,⟨A2,c2,rfl,m2,r2⟩,_,_,rfl,⟨A3,c3,rfl,m3,r3⟩,_,_,rfl,⟨A4,c4,rfl,m4,r4⟩,_,_,rfl,⟨A5,c5,rfl,m5,r5⟩,_,_,rfl,⟨A6,c6,rfl,m6,r6⟩,_,_,rfl,⟨A7,c7,rfl,m7,r7⟩,rfl⟩ _;exact ⟨⟨a,b,c,d,e,f,g⟩,⟨⟨⟨a,b,c,d,e,f,g⟩,A1,A2,A3,A4,A5,A6,A7,c1,c2,c3,c4,c5,c6,c7⟩,rfl,rfl,⟨r1,r2,r3,r4,r5,r6,r7,m1,m2,m3,m4,m5,m6,m7⟩⟩,trivial⟩
theorem x0u:Opens Tryz.prog 29 (cL x65):=z5w Tryz.underlying29 (by kernel_rfl) x48 (by decide) (oDt (by kernel_rfl))
end Go.Proofs.YtpenlfedkacglaaGreatDoor
