import Derived.Test.YtpenlfedkacglaaGreatDoorL26
set_option maxRecDepth 100000
set_option maxHeartbeats 40000000
set_option linter.all false
namespace Go.Proofs.YtpenlfedkacglaaGreatDoor
open Go.RowKit
attribute [local go_sem] z05 z07 z01 z02
attribute [-go_sem] run_equalIn_agg
attribute [-go_sem] loadCellsFrom
theorem y4m (l:LV) (ins:List Inp) (Ai:Option Addr) (ci:Nat) (w:World) (E:y6n w) (hl:LvR w l) (hj:l.l.jts.length≤140737488351232) (hi:RdS j5f w (Lt w) Ai ins) (hn:ins.length≤maxLen∧ins.length≤ci):Calls Tryz.prog 3 #[lvA l,.slice Ai ins.length ci] w (j8e w):=by
 obtain ⟨W1,hW1⟩:∃ W,W=w.alloc (.cells (z1c l) 28):=⟨_,rfl⟩
 have hb1:Below w.heap.size w W1:=by rw[hW1];exact bQ.alloc nL _
 have hx0:Blk W1 w.heap.size 28 (z1c l):=by rw[hW1];exact Blk.new _ _ _ _ rfl
 have HBD:=hE (y2x l W1 (E.now hb1) (hl.now hb1) hj);have HLT:=hE fun W' (h:Below w.heap.size w W')=>x42 l ins Ai ci W' (hl.now h) (hi.now h) hn.1
 have ld:=z0c hx0 6 rfl;have lx:=hx0.lt;unfold lvA at *;have HX0:=hE (aIq hx0 hb1);clear hx0 hb1;go_enter Tryz.func3,Tryz.ntmps3
 go_upto_region 1 with (fail)
 rw[←hW1];clear hW1;go_wp2_with fail
 refine HBD.out.mono ?_;rintro e w2 ⟨tv,rfl,htv,htr,hq2⟩;clear HBD ld lx;obtain ⟨er,her⟩:∃ x,(x0b l.l).2=x:=⟨_,rfl⟩
 rw[her];obtain ⟨W3,hW3⟩:∃ W,W=w2.alloc (.cells (z0t tv) 33):=⟨_,rfl⟩
 have h3:Below w2.heap.size w2 W3:=by rw[hW3];exact bQ.alloc nL _
 have hx1:Blk W3 w2.heap.size 33 (z0t tv):=by rw[hW3];exact Blk.new _ _ _ _ rfl
 have hq3:=z00 hq2 hq2.size h3;obtain ⟨hx0,hb1⟩:=HX0.out;have hx03:=hx0.now hq3;have hb3:=z00 hb1 hb1.size hq3;have ld:=z0c hx03 6 rfl;have lx:=hx03.lt;have HL3:=hE (HLT.out _ hb3);have HX:=hE (aIq hx1 (aIq (htr.now h3) hb3));have HTV:=hE htv;have HER:=hE her;clear hx0 hb1 hx03 hb3 hq3 hq2 h3 htr hx1 htv her HX0 HLT;go_upto_region 2 with (fail)
 rw[←hW3];clear hW3;generalize w2.heap.size=g1 at *;go_wp2_with fail
 refine HL3.out.mono ?_;rintro e w4 ⟨rfl,hq4⟩;clear HL3 ld lx;have HX4:=hE (show Blk w4 g1 33 (z0t tv)∧TvR w4 tv∧Below w.heap.size w w4 from ⟨HX.out.1.now hq4,HX.out.2.1.now hq4,z00 HX.out.2.2 HX.out.2.2.size hq4⟩);clear HX hq4
 cases hlt:z6p l.l ins with
 | false=>
  have HA:=hE (alive_any w4 (E.now HX4.out.2.2));go_wp2_with fail
  refine HA.out.mono ?_;rintro e w5 ⟨rfl,hq5⟩;have hb5:=z00 HX4.out.2.2 HX4.out.2.2.size hq5;clear HA;go_wp2_with fail
  go_ret
  exact ⟨rfl,hb5⟩
 | true=>
  by_cases her:er=0;case neg=>
   have t1:(er != 0)=true:=bne_iff_ne.2 her;clear her;have HA:=hE (alive_any w4 (E.now HX4.out.2.2));go_wp2_with fail
   refine HA.out.mono ?_;rintro e w5 ⟨rfl,hq5⟩;have hb5:=z00 HX4.out.2.2 HX4.out.2.2.size hq5;clear HA;go_wp2_with fail
   go_ret;exact ⟨rfl,hb5⟩
  case pos=>
   subst her;have t1:((0:Int) != 0)=false:=rfl;obtain ⟨hbe,hck,hTS⟩:=j5d HER.out;have hTV:tv.t=z5i l.l:=by rw[HTV.out,hbe]
   rw[←hTV] at hck hTS;obtain ⟨hi16,hca⟩:=x45 hlt;have HST:=hE (y6e tv w4 HX4.out.2.1 hTS.ok hck);have HCK:=hE hck;have HTS:=hE hTS;have ld:=z0c HX4.out.1 5 rfl;have lx:=HX4.out.1.lt;clear hbe hTV hlt hck hTS HTV HER;go_wp2_with fail
   refine HST.out.mono ?_;rintro e w5 ⟨us,rfl,hus,hio,hq5⟩;clear HST ld lx;obtain ⟨W6,hW6⟩:∃ W,W=w5.alloc (.cells (z1v us) 41):=⟨_,rfl⟩
   have h6:Below w5.heap.size w5 W6:=by rw[hW6];exact bQ.alloc nL _
   have hbs:Blk W6 w5.heap.size 41 (z1v us):=by rw[hW6];exact Blk.new _ _ _ _ rfl
   have hq6:=z00 hq5 hq5.size h6;have HJ0:=hE (show x1u tv w w4 g1 w5.heap.size W6 us from ⟨HX4.out.1.now hq6,hbs,HX4.out.2.1,hq6,(hio.now h6).lower nZ,nR HX4.out.2.2.size hq5.size,hq5.size,by have:=HX4.out.1.lt;have:=hq5.size;omega,z00 HX4.out.2.2 HX4.out.2.2.size hq6⟩);have HUS:=hE hus;clear hus hio hq5 hq6 h6 hbs;go_upto_region 5 with (fail)
   rw[←hW6];clear hW6;generalize w5.heap.size=gs at *;go_wp2_with fail
   go_loopw [34] (fun a wr=>∃ (k:Nat) (um:z1r),a=.int .i64 k∧k≤ins.length∧um.i=j3l tv.t (x26 tv.t) (ins.take k)∧x1u tv w w4 g1 gs wr um) (fun n _=>ins.length - (intOf n).toNat)
   case atStart=>exact ⟨0,us,rfl,nZ,HUS.out,HJ0.out⟩
   case round=>
    obtain ⟨w6,hww⟩:∃ W,W=wr:=⟨_,rfl⟩
    subst hww;obtain ⟨k,um,rfl,hkl,hum,hJ⟩:=hrel;clear HJ0;by_cases hlt:k < ins.length
    ·have hki:(k:Int) < (ins.length:Int):=by omega
     have hiw:=hi.now hJ.bel;obtain ⟨bi,oi,iv,hA,lb,hie,hiv,q0,q1,q2,q3,q4,q5,q6⟩:=hi.elN hlt;subst hA;have hsm:z7z tv.t um.i=true:=by rw[hum];exact j3m _ (z1j.2 (x5s HCK.out))
     have hic:iv.i.calls.length≤80000:=by rw[hie];exact hca _ (uE hlt)
     have HQ:Hid (∀ (j:Nat) (y:Value),[.slice iv.A1 iv.i.occ.length iv.c1,.slice iv.A2 iv.i.det.length iv.c2,.slice iv.A3 iv.i.clo.length iv.c3,.slice iv.A4 iv.i.cla.length iv.c4,.slice iv.A5 iv.i.pas.length iv.c5,.slice iv.A6 iv.i.calls.length iv.c6,.slice iv.A7 iv.i.cans.length iv.c7][j]? = some y→w.cell? ⟨bi,oi+k*7+j,none⟩=some y):=hE fun j y hy=>match j,hy with
      | 0,hy=>(sJ hy)▸q0
      | 1,hy=>(sJ hy)▸q1
      | 2,hy=>(sJ hy)▸q2
      | 3,hy=>(sJ hy)▸q3
      | 4,hy=>(sJ hy)▸q4
      | 5,hy=>(sJ hy)▸q5
      | 6,hy=>(sJ hy)▸q6
     have lbw:bi < w.heap.size:=lb;have HLI:=hE fun W (h:Below w.heap.size w W)=>z2y (w:=W) (b:=bi) (o:=oi+k*7) (n:=7) (ys:=[.slice iv.A1 iv.i.occ.length iv.c1,.slice iv.A2 iv.i.det.length iv.c2,.slice iv.A3 iv.i.clo.length iv.c3,.slice iv.A4 iv.i.cla.length iv.c4,.slice iv.A5 iv.i.pas.length iv.c5,.slice iv.A6 iv.i.calls.length iv.c6,.slice iv.A7 iv.i.cans.length iv.c7]) rfl (fun j y hy=>(h.cell (p:=⟨bi,oi+k*7+j,none⟩) lbw).trans (HQ.out j y hy))
     have HIV:=hE fun W (h:Below w.heap.size w W)=>hiv.rd.now h
     have HUE:Hid (z1s tv.t um.i iv.i=j3l tv.t (x26 tv.t) (ins.take (k+1))):=hE (by rw[hum,hie];exact x9j hlt);have HSM:=hE (z1j.1 hsm);have HJ:=hE hJ;clear hum hie hiv q0 q1 q2 q3 q4 q5 q6 hiw hJ lb;go_wp2_with fail
     rename_i K hK;refine j4e tv um g1 gs ins (some ⟨bi,oi,none⟩) ci k iv bi oi HJ.out.b1 HJ.out.bs HJ.out.tr HJ.out.it.rd (HIV.out _ HJ.out.bel) HTS.out hsm hic rfl (nT lbw HJ.out.bel.size) (fun j y hy=>(HJ.out.bel.cell (p:=⟨bi,oi+k*7+j,none⟩) lbw).trans (HQ.out j y hy)) hki rfl rfl rfl rfl rfl ?_;intro a8 w8 g gO u8 Ac Al Ar cc nl cl nr cr hts hdf hka e9 e10 hu8 hio8 hbg hbO hoc hgl hgO hq8;have hset:=x6c [38,39,40,41,42,43,44,37,45,46,9,10,9] hts rfl hdf hka;show K a8 w8;rw[hset];simp only[List.foldl_cons,List.foldl_nil,lsa,lsz,lss,e9,e10];generalize a8.eval (.tmp 38)=y38;generalize a8.eval (.tmp 39)=y39;generalize a8.eval (.tmp 40)=y40;generalize a8.eval (.tmp 41)=y41;generalize a8.eval (.tmp 42)=y42;generalize a8.eval (.tmp 43)=y43;generalize a8.eval (.tmp 44)=y44;generalize a8.eval (.tmp 37)=y37;generalize a8.eval (.tmp 45)=y45;generalize a8.eval (.tmp 46)=y46;clear hset hka hts hdf e9 e10 hsm hic;refine hK _ _ ?_;have hJ8:=HJ.out.now hq8;have hsn8:z9u tv.t u8.i:=by rw[hu8];exact y8h HSM.out
     have hF:=z6u (z3s.2 HSM.out.fit);have hF8:=z6u (z3s.2 hsn8.fit);have hhl:=(z8l HCK.out).hl;obtain ⟨np,hnp⟩:∃ n,tv.t.pts.length=n:=⟨_,rfl⟩
     obtain ⟨nr',hnr⟩:∃ n,tv.t.rts.length=n:=⟨_,rfl⟩
     have hnp32:np≤32:=by rw[←hnp];exact (z8l HCK.out).np
     have hnr48:nr'≤48:=by rw[←hnr];exact (z8l HCK.out).nr
     have n1:u8.i.lies.length=np:=by rw[hF8.l2,hnp]
     have n2:um.i.lies.length=np:=by rw[hF.l2,hnp]
     have n3:tv.t.homes.length=np:=by rw[hhl,hnp]
     have n4:u8.i.rts.length=nr':=by rw[hF8.l1,hnr]
     have HEX:=hE (y3l tv u8 w8 hJ8.tr hio8.rd HTS.out hsn8);have x90:=(hbg.cell 0).trans (by rw[←n4];rfl:_=some (Value.slice u8.A1 nr' u8.c1));have x91:=(hbg.cell 1).trans (by rw[←n1];rfl:_=some (Value.slice u8.A2 np u8.c2));have x71:=(hJ8.bs.cell 1).trans (by rw[←n2];rfl:_=some (Value.slice um.A2 np um.c2));have x52:=(hJ8.b1.cell 2).trans (by rw[←n3];rfl:_=some (Value.slice tv.A3 np tv.c3));have x50:=(hJ8.b1.cell 0).trans (by rw[←hnr];rfl:_=some (Value.slice tv.A1 nr' tv.c1));have ld5:=z0c hJ8.b1 5 rfl;have ld9:=z0c hbg 2 rfl;have l9:=hbg.lt;have l7:=hJ8.bs.lt;have l5:=hJ8.b1.lt;have HNS:=hE (aIq n1 (aIq n2 (aIq n3 (aIq n4 (aIq hnp hnr)))));have HW8:=hE (show x1u tv w w4 g1 gs w8 um∧Blk w8 g 41 (z1v u8)∧Blk w8 gO 45 #[.slice Ac (z2d tv.t (z1s tv.t um.i iv.i)).length cc,.slice Al nl cl,.slice Ar nr cr]∧ItO w8 w6.heap.size u8∧z09 cB w8 w6.heap.size 4 (.slice Ac (z2d tv.t (z1s tv.t um.i iv.i)).length cc) (z2d tv.t (z1s tv.t um.i iv.i)) 0 from ⟨hJ8,hbg,hbO,hio8,hoc⟩);have HU8:=hE hu8;have HSN8:=hE hsn8;clear hJ8 hsn8 hF hF8 hhl n1 n2 n3 n4 hnp hnr hbg hbO hio8 hoc hu8 hq8;go_wp2_with fail
     refine HEX.out.mono ?_;rintro e w9 ⟨rfl,hq9⟩;have HW9:=hE (show x1u tv w w4 g1 gs w9 um∧Blk w9 g 41 (z1v u8)∧Blk w9 gO 45 #[.slice Ac (z2d tv.t (z1s tv.t um.i iv.i)).length cc,.slice Al nl cl,.slice Ar nr cr]∧ItO w9 w6.heap.size u8∧z09 cB w9 w6.heap.size 4 (.slice Ac (z2d tv.t (z1s tv.t um.i iv.i)).length cc) (z2d tv.t (z1s tv.t um.i iv.i)) 0 from ⟨HW8.out.1.now hq9,HW8.out.2.1.now hq9,HW8.out.2.2.1.now hq9,HW8.out.2.2.2.1.now hq9,HW8.out.2.2.2.2.now hq9⟩);have y71:=(hq9.cell (p:=⟨gs,1,none⟩) l7).trans x71;have m7:=HW9.out.1.bs.lt;clear HEX x90 x91 x71 x52 x50 ld5 ld9 l9 l7 l5 HW8 hq9;go_wp2_with fail
     clear y71 m7;go_loopw [81] (fun a wr=>∃ (m:Nat),a=.int .i64 m∧m≤np∧Below w9.heap.size w9 wr) (fun n _=>np - (intOf n).toNat)
     case atStart=>exact ⟨0,rfl,nZ,bQ⟩
     case round=>
      obtain ⟨wz,hww⟩:∃ W,W=wr:=⟨_,rfl⟩
      subst hww;obtain ⟨m,rfl,hml,hqz⟩:=hrel;by_cases hlm:m < np
      ·have hmi:(m:Int) < (np:Int):=by omega
       have hJz:=HW9.out.1.now hqz;have hbgz:=HW9.out.2.1.now hqz;have hioz:=HW9.out.2.2.2.1.now hqz;obtain ⟨n1,n2,n3,n4,n5,n6⟩:=HNS.out;obtain ⟨bn,on,hAn,lbn,-,yn⟩:=hioz.rd.r2.elI (i:=m) (by omega);obtain ⟨bs,os,hAs,lbs,-,ys⟩:=hJz.it.rd.r2.elI (i:=m) (by omega);obtain ⟨bh,oh,hAh,lbh,h64h,yh⟩:=hJz.tr.r3.elI (i:=m) (by omega);have HCL:=hE fun h=>x77 (i:=iv.i) (k:=m) HSM.out (by omega) h
       rw[←HU8.out] at HCL;rw[show u8.i.lies.getD m 0=u8.i.lies[m]'(by omega) by simp[List.getD,show m < u8.i.lies.length by omega],show um.i.lies.getD m 0=um.i.lies[m]'(by omega) by simp[List.getD,show m < um.i.lies.length by omega],show tv.t.homes.getD m 0=tv.t.homes[m]'(by omega) by simp[List.getD,show m < tv.t.homes.length by omega]] at HCL;obtain ⟨nv,hnv⟩:∃ x,u8.i.lies[m]'(by omega)=x:=⟨_,rfl⟩
       obtain ⟨sv,hsv⟩:∃ x,um.i.lies[m]'(by omega)=x:=⟨_,rfl⟩
       obtain ⟨hv,hhv⟩:∃ x,tv.t.homes[m]'(by omega)=x:=⟨_,rfl⟩
       rw[hnv] at yn HCL;rw[hsv] at ys HCL;rw[hhv] at yh HCL h64h;have HSS:Hid (∀ W,Below wz.heap.size wz W→(fun w'=>w'.cell? ⟨g,1,none⟩=some (.slice (some ⟨bn,on,none⟩) np u8.c2)∧w'.cell? ⟨bn,on+m,none⟩=some (.int .i64 nv)∧w'.cell? ⟨gs,1,none⟩=some (.slice (some ⟨bs,os,none⟩) np um.c2)∧w'.cell? ⟨bs,os+m,none⟩=some (.int .i64 sv)∧Sem.run Tryz.prog (loadCellsFrom ⟨bi,oi+k*7,none⟩ 0 7 #[]) w' = .ok (z3t iv) w'∧w'.cell? ⟨g1,2,none⟩=some (.slice (some ⟨bh,oh,none⟩) np tv.c3)∧w'.cell? ⟨bh,oh+m,none⟩=some (.int .i64 hv)) W):=hE fun W q=>⟨((hbgz.now q).cell 1).trans (by unfold z1v;rw[←n1,hAn];rfl),(q.cell (p:=⟨bn,on+m,none⟩) lbn).trans yn,((hJz.now q).bs.cell 1).trans (by unfold z1v;rw[←n2,hAs];rfl),(q.cell (p:=⟨bs,os+m,none⟩) lbs).trans ys,HLI.out W (z00 hJz.bel hJz.bel.size q),((hJz.now q).b1.cell 2).trans (by unfold z0t;rw[←n3,hAh];rfl),(q.cell (p:=⟨bh,oh+m,none⟩) lbh).trans yh⟩
       have HFR:=hE fun W (q:Below wz.heap.size wz W)=>y8n iv hv W (HIV.out W (z00 hJz.bel hJz.bel.size q))
       have HZ:=hE hqz;clear hJz hbgz hioz n1 n2 n3 n4 n5 n6 hAn hAs hAh lbn lbs lbh yn ys yh hnv hsv hhv hqz;go_wp2_with fail
       by_cases hns:nv=sv;case pos=>
        have t1:(nv != sv)=false:=by simp[hns]
        clear hns HCL HFR;refine rgS 24 HSS fun hHeld=>?_
        refine tkM 24 [0,1,2,3,4,5,6,7,8,9,10,11,12,13,14,15,16,17,18,19,20,21,22,23] ?_;refine wdn ?_;clear hHeld;go_wp2_with fail
        go_roundw
        case rel=>
         have hm1:m+1≤np:=by omega
         exact ⟨m+1,by go_num,hm1,HZ.out.drew⟩
        case measure=>simp[intOf];omega
       case neg=>
        have t1:(nv != sv)=true:=bne_iff_ne.2 hns;have hro:=HCL.out hns;rw[hro] at HFR;clear hns hro HCL;refine rgS 24 HSS fun hHeld=>?_
        refine tkM 21 [0,1,2,3,4,5,6,7,8,9,10,11,12,13,14,15,16,17,18,19,20] ?_;refine rd1 21 rfl fun K hK=>?_
        go_simp;go_at_call 11
        refine (HFR.out _ bQ.drew).mono ?_;rintro e wx ⟨rfl,hqx⟩;have hqq:Below wz.heap.size wz wx:=z00 (Below.refl wz.heap.size wz).drew nL hqx;go_wp2_with fail
        refine hK.out _ _ (HSS.out _ hqq) (fun hHeld=>?_);clear hK K;try simp only[Act.put,lsa,lsz,lss]
        refine tkM 2 [22,23] ?_;refine wdn ?_;clear hHeld;go_wp2_with fail
        go_roundw
        case rel=>
         have hm1:m+1≤np:=by omega
         exact ⟨m+1,by go_num,hm1,z00 HZ.out HZ.out.size hqq⟩
        case measure=>simp[intOf];omega
      ·have hmi:¬(m:Int) < (np:Int):=by omega
       have y50:=((HW9.out.1.now hqz).b1.cell 0).trans (by rw[←HNS.out.2.2.2.2.2];rfl:_=some (Value.slice tv.A1 nr' tv.c1));have l5:=(HW9.out.1.now hqz).b1.lt;have HZ:=hE hqz;clear hqz;go_wp2_with fail
       clear y50 l5;go_loopw [112] (fun a wr=>∃ (r:Nat),a=.int .i64 r∧r≤nr'∧Below w9.heap.size w9 wr) (fun n _=>nr' - (intOf n).toNat)
       case atStart=>exact ⟨0,rfl,nZ,HZ.out⟩
       case round=>
        obtain ⟨wy,hww⟩:∃ W,W=wr:=⟨_,rfl⟩
        subst hww;obtain ⟨r,rfl,hrl,hqy⟩:=hrel;clear HZ;by_cases hlr:r < nr'
        ·have hri:(r:Int) < (nr':Int):=by omega
         have hJy:=HW9.out.1.now hqy;have hbgy:=HW9.out.2.1.now hqy;have hbOy:=HW9.out.2.2.1.now hqy;have hioy:=HW9.out.2.2.2.1.now hqy;have hocy:=HW9.out.2.2.2.2.now hqy;obtain ⟨n1,n2,n3,n4,n5,n6⟩:=HNS.out;have hrt:r < tv.t.rts.length:=by omega
         have hru:r < u8.i.rts.length:=by omega
         obtain ⟨b2,off2,rv,hA2,lb2,hre,hrv,lds⟩:=z6j hJy.tr.r1 hrt;obtain ⟨bR,oR,hAR,lbR,-,y0,-,-⟩:=hioy.rd.r1.elX hru;have hsg:=fun e h1 h2 h3=>j7g (t:=tv.t) (s:=u8.i) (k:=r) (e:=e) hrt hru h1 h2 h3
         have hcc:=x2y (i:=iv.i) HSM.out hrt;rw[←HU8.out,z5g hru,z2u hrt] at hcc;have hent:=(z8l HCK.out).ent _ (uE hrt);have hsm:=HTS.out _ (uE hrt);rw[←hre] at hcc hent hsm hsg;obtain ⟨x,hx⟩:∃ x,(u8.i.rts[r]'hru).st=x:=⟨_,rfl⟩
         rw[hx] at y0 hsg hcc;have HSG:=hE hsg;have HCC:=hE hcc;have HENT:=hE hent;have HRS:=hE hsm;obtain ⟨W10,hW10⟩:∃ W,W=wy.alloc (.cells (z0e rv) 56):=⟨_,rfl⟩
         have h10:Below wy.heap.size wy W10:=by rw[hW10];exact bQ.alloc nL _
         have hbx:Blk W10 wy.heap.size 56 (z0e rv):=by rw[hW10];exact Blk.new _ _ _ _ rfl
         have c5:=(hJy.b1.cell 0).trans (by unfold z0t;rw[←n6,hA2];rfl:_=some (Value.slice (some ⟨b2,off2,none⟩) nr' tv.c1));have l5:=hJy.b1.lt;have lb2':b2 < wy.heap.size:=lb2;have HY:=hE (show Blk W10 g 41 (z1v u8)∧Blk W10 gO 45 #[.slice Ac (z2d tv.t (z1s tv.t um.i iv.i)).length cc,.slice Al nl cl,.slice Ar nr cr]∧z09 cB W10 w6.heap.size 4 (.slice Ac (z2d tv.t (z1s tv.t um.i iv.i)).length cc) (z2d tv.t (z1s tv.t um.i iv.i)) 0∧RvR W10 (Lt W10) rv∧Blk W10 wy.heap.size 56 (z0e rv)∧Below w9.heap.size w9 W10 from ⟨hbgy.now h10,hbOy.now h10,hocy.now h10,hrv.now h10,hbx,z00 hqy hqy.size h10⟩);have c9:=((hbgy.now h10).cell 0).trans (by unfold z1v;rw[←n4,hAR];rfl:_=some (Value.slice (some ⟨bR,oR,none⟩) nr' u8.c1));have l9:=(hbgy.now h10).lt;have z0:=(h10.cell (p:=⟨bR,oR+r*3,none⟩) lbR).trans y0;have lbR':bR < W10.heap.size:=nT lbR h10.size;clear hJy hbgy hbOy hioy hocy n1 n2 n3 n4 n5 n6 hrt hru hA2 lb2 hre hrv hAR lbR y0 hsg hcc hent hsm hx h10 hbx hqy;go_upto_region 21 with (fail)
         rw[←hW10];clear hW10 c5 l5 lb2' lds;by_cases hx2:x=2;case neg=>
          have t1:(x != 2)=true:=bne_iff_ne.2 hx2;clear hx2;go_wp2_with fail
          go_roundw
          case rel=>
           have hr1:r+1≤nr':=by omega
           exact ⟨r+1,by go_num,hr1,HY.out.2.2.2.2.2⟩
          case measure=>simp[intOf];omega
         case pos=>
          subst hx2;have HC2:=hE (HCC.out rfl);clear HCC;have t1:((2:Int) != 2)=false:=rfl;obtain ⟨hbg,hbO,hoc,hrv,hbx,hq10⟩:=HY.out;obtain ⟨he0,he1⟩:=HENT.out;obtain ⟨e,he⟩:∃ e:Nat,rv.r.ent=(e:Int):=⟨rv.r.ent.toNat,by omega⟩
          have hse:=HSG.out e rfl he (by omega);rw[HU8.out] at hse;obtain ⟨sg,hsgl⟩:∃ l,z2d tv.t (z1s tv.t um.i iv.i)=l:=⟨_,rfl⟩
          rw[hsgl] at hse hoc hbO;have hel:=(List.getElem?_eq_some_iff.1 hse).1;obtain ⟨bC,oC,hAC,lbC,c0⟩:=hoc.rdn.2.x79 hel;have hv:=(List.getElem?_eq_some_iff.1 hse).2;rw[hv] at c0;have hei:(e:Int) < (sg.length:Int):=by omega
          have hei2:¬(sg.length:Int)≤(e:Int):=by omega
          have he0':¬(e:Int) < 0:=by omega
          have x1:=(hbx.cell 1).trans (by rw[←he];rfl:_=some (Value.int .i64 (e:Int)));have lx:=hbx.lt;have d0:=(hbO.cell 0).trans (by rw[hAC];rfl:_=some (Value.slice (some ⟨bC,oC,none⟩) sg.length cc));have ldO:=hbO.lt;have lbC':bC < W10.heap.size:=lbC.2;have x5:=hbx.cell 5;have x10:=hbx.cell 10;simp only[gqA,gqZ,gqS] at x5 x10;obtain ⟨i0,hi0,hz0,hz1,hz2⟩:=info_parts z3f;have r3:RdS cI W10 (fun b=>b < W10.heap.size) rv.A3 rv.r.secs:=hrv.r3;have r6:RdS cI W10 (fun b=>b < W10.heap.size) rv.A6 rv.r.osecs:=hrv.r6;have hs3:=HRS.out.n3;have hs6:=HRS.out.n6;have HQ10:=hE hq10;have HBX:=hE hbx;clear hbg hbO hoc hrv hbx hq10 he0 he1 he hse hsgl hel hAC lbC hv HY HENT HSG;go_upto_region 24 with (fail)
          clear x1 d0 ldO c0 lbC' c9 l9 z0 lbR';refine rgH 9 (S:=(fun w'=>w'.cell? ⟨wy.heap.size,5,none⟩=some (.slice rv.A3 rv.r.secs.length rv.c3)∧w'.cell? ⟨wy.heap.size,10,none⟩=some (.slice rv.A6 rv.r.osecs.length rv.c6))) (⟨x5,x10⟩) fun hHeld=>?_
          refine tkM 5 [1,2,4,5,8] ?_;refine rd1 0 rfl fun K hK=>?_
          go_simp;have hqa:Below W10.heap.size W10 (W10.drew.alloc (.cells #[] 3)):=(Below.refl W10.heap.size W10).drew.alloc nL _;refine hK.out _ _ ⟨((HBX.out.now hqa).cell 5),((HBX.out.now hqa).cell 10)⟩ (fun hHeld=>?_);clear hK K;try simp only[Act.put,lsa,lsz,lss]
          have hlow0:y1e cI (W10.drew.alloc (.cells #[] 3)) W10.heap.size 3 (.slice (some ⟨W10.heap.size,0,none⟩) 0 0) ([]:List Int):=y1e.empty cI W10.drew 3;refine rd1 3 rfl fun K hK=>?_
          refine z5x (c:=cI) rfl (.tmp 147) (.tmp 149) 31 rfl W10.heap.size 3 i0 _ 8 Tryz.underlying31 hi0 hz0 hz1 hz2 rfl (by decide) _ [] rfl hlow0 rv.A3 rv.c3 rv.r.secs.length rv.r.secs rfl rfl (r3.keep fun p hp=>World.cell?_of_block (hqa.block _ hp)) (fun ys x h u hu=>by (obtain ⟨rfl,-⟩:=h;simp at hu;subst hu;rfl)) (by simp;omega) (by omega) ?_;intro v3 w3 hl3 hb3;rw[List.nil_append] at hl3;obtain ⟨Ax,cx,hvx,-,-⟩:=hl3.reads;subst hvx;have hqb:Below W10.heap.size W10 w3:=hqa.trans hb3;refine hK.out _ _ ⟨((HBX.out.now hqb).cell 5),((HBX.out.now hqb).cell 10)⟩ (fun hHeld=>?_);clear hK K;try simp only[Act.put,lsa,lsz,lss]
          refine rd1 6 rfl fun K hK=>?_
          refine z5x (c:=cI) rfl (.tmp 150) (.tmp 152) 31 rfl W10.heap.size 3 i0 _ 8 Tryz.underlying31 hi0 hz0 hz1 hz2 rfl (by decide) _ rv.r.secs rfl hl3 rv.A6 rv.c6 rv.r.osecs.length rv.r.osecs rfl rfl (r6.keep fun p hp=>World.cell?_of_block (hqb.block _ hp)) (fun ys x h u hu=>by (obtain ⟨rfl,-⟩:=h;simp at hu;subst hu;rfl)) (by omega) (by omega) ?_;intro v4 w4' hl4 hb4;obtain ⟨L,hL⟩:∃ L,rv.r.secs++rv.r.osecs=L:=⟨_,rfl⟩
          rw[hL] at hl4;obtain ⟨Ay,cy,hvy,hly,-⟩:=hl4.reads;subst hvy;have hqc:Below W10.heap.size W10 w4':=hqb.trans hb4;refine hK.out _ _ ⟨((HBX.out.now hqc).cell 5),((HBX.out.now hqc).cell 10)⟩ (fun hHeld=>?_);clear hK K;try simp only[Act.put,lsa,lsz,lss]
          refine tkM 1 [7] ?_;refine wdn ?_;clear hHeld;rw[hL] at HC2;have HL4:=hE (z5e z9y hl4);have hL6:L.length≤60000:=by rw[←hL,qL];omega
          have HQC:=hE (z00 HQ10.out HQ10.out.size hqc);clear hl4 hl3 hlow0 hb3 hb4 hqa hqb hqc hL hly r3 r6 x5 x10;go_wp2_with fail
          go_loopw [155] (fun a wr=>∃ (j:Nat),a=.int .i64 j∧j≤L.length∧Below w9.heap.size w9 wr∧z09 cI wr W10.heap.size 3 (.slice Ay L.length cy) L 0) (fun n _=>L.length - (intOf n).toNat)
          case atStart=>exact ⟨0,rfl,nZ,HQC.out,HL4.out⟩
          case round=>
           obtain ⟨wv,hww⟩:∃ W,W=wr:=⟨_,rfl⟩
           subst hww;obtain ⟨j,rfl,hjl,hqv,hov⟩:=hrel;clear HQC HL4;by_cases hlj:j < L.length
           ·have hji:(j:Int) < (L.length:Int):=by omega
            obtain ⟨bl,ol,hAl,lbl,h64,y0⟩:=hov.rdn.2.elI hlj;have hro:=HC2.out _ (uE hlj);obtain ⟨n,hnn⟩:∃ x,L[j]=x:=⟨_,rfl⟩
            rw[hnn] at y0 hro;have hbv:=z00 HW9.out.1.bel HW9.out.1.bel.size hqv;have HFR:=hE (y8n iv n wv (HIV.out wv hbv));rw[hro] at HFR;have ldi:=HLI.out wv hbv;have lbl':bl < wv.heap.size:=lbl.2;have lbi:bi < wv.heap.size:=nT lbw hbv.size;have HQV:=hE (aIq hqv hov);have HAL:=hE hAl;rw[hAl];clear hov hqv hnn hro lbl h64 hbv hAl;go_wp2_with fail
            refine HFR.out.mono ?_;rintro e wu ⟨rfl,hqu⟩;clear HFR ldi y0;go_wp2_with fail
            go_roundw
            case rel=>
             have hj1:j+1≤L.length:=by omega
             exact ⟨j+1,by go_num,hj1,z00 HQV.out.1 HQV.out.1.size hqu,HAL.out▸(HQV.out.2.now hqu)⟩
            case measure=>simp[intOf];omega
           ·have hji:¬(j:Int) < (L.length:Int):=by omega
            have HQV:=hE hqv;clear hqv hov;go_wp2_with fail
            go_roundw
            case rel=>
             have hr1:r+1≤nr':=by omega
             exact ⟨r+1,by go_num,hr1,HQV.out⟩
            case measure=>simp[intOf];omega
        ·have hri:¬(r:Int) < (nr':Int):=by omega
         have hJy:=HW9.out.1.now hqy;have hbgy:=HW9.out.2.1.now hqy;have hioy:=HW9.out.2.2.2.1.now hqy;have ld9:=z0c hbgy 2 rfl;have l9:=hbgy.lt;have r0:=hJy.bs.cell 0;have r1:=hJy.bs.cell 1;have rf:=hJy.bs.free;have rl:=hJy.bs.lt;simp only[gqA,gqZ,gqS] at r0 r1;have HJN:=hE (hJy.put (u':=u8) (hioy.lower nZ));clear hJy hbgy hioy hqy;go_wp2_with fail
         go_roundw
         case rel=>
          have hk1:k+1≤ins.length:=by omega
          exact ⟨k+1,u8,by go_num,hk1,HU8.out.trans HUE.out,HJN.out⟩
         case measure=>simp[intOf];omega
    ·have hki:¬(k:Int) < (ins.length:Int):=by omega
     have HA:=hE (alive_any w6 (E.now hJ.bel));have hbj:=hJ.bel;clear hJ hum;go_wp2_with fail
     refine HA.out.mono ?_;rintro e w7 ⟨rfl,hq7⟩;have hb7:=z00 hbj hbj.size hq7;clear HA;go_wp2_with fail
     go_ret;exact ⟨rfl,hb7⟩
end Go.Proofs.YtpenlfedkacglaaGreatDoor
