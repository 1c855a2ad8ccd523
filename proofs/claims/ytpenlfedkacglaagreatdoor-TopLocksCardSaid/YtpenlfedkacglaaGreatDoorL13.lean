import Derived.Test.YtpenlfedkacglaaGreatDoorL12
set_option maxRecDepth 100000
set_option maxHeartbeats 40000000
set_option linter.all false
namespace Go.Proofs.YtpenlfedkacglaaGreatDoor
open Go.RowKit
attribute [local go_sem] z05 z07 z01 z02
attribute [-go_sem] run_equalIn_agg
theorem x3g {t:Tab} {s:Itr} (h:z4y t≠0):y1h t s=false:=by unfold y1h;rw[dFf h];rfl
theorem x3h {t:Tab} {s:Itr} (h:¬s.rts.length=t.rts.length):y1h t s=false:=by unfold y1h;rw[dFf h];simp
theorem y8k {t:Tab} {s:Itr} (h:¬s.lies.length=t.pts.length):y1h t s=false:=by unfold y1h;rw[dFf h];simp
theorem y3m {t:Tab} {s:Itr} (h:z4y t=0) (h1:s.rts.length=t.rts.length) (h2:s.lies.length=t.pts.length):y1h t s=(((s.rts.zip t.rts).all fun p=>z0z p.1 p.2.secs.length) && s.lies.all fun p=>decide (p=1) || decide (p=2)):=by
 unfold y1h;rw[dTt h,dTt h1,dTt h2];rfl
theorem x9z {α β:Type} {a:List α} {b:List β} {p:α × β→Bool} {k:Nat} (h1:k < a.length) (h2:k < b.length):((a.zip b).take (k+1)).all p=(((a.zip b).take k).all p && p (a[k],b[k])):=by
 rw[tqS (by rw[List.length_zip];omega),List.all_append];simp
theorem j7q {α β:Type} {a:List α} {b:List β} {p:α × β→Bool} {k:Nat} (h1:k < a.length) (h2:k < b.length) (h:p (a[k],b[k])=false):(a.zip b).all p=false:=by
 cases hx:(a.zip b).all p with
 | false=>rfl
 | true=>
  rw[laT] at hx;have:=hx (a[k],b[k]) (by
   have e:(a.zip b)[k]'(by rw[List.length_zip];omega)=(a[k],b[k]):=by simp
   rw[←e];exact uE _)
  rw[h] at this;cases this
theorem z7e {α:Type} {a:List α} {p:α→Bool} {k:Nat} (h1:k < a.length):(a.take (k+1)).all p=((a.take k).all p && p a[k]):=by
 rw[tqS h1,List.all_append];simp
theorem y3b {α:Type} {a:List α} {p:α→Bool} {k:Nat} (h1:k < a.length) (h:p a[k]=false):a.all p=false:=by
 cases hx:a.all p with
 | false=>rfl
 | true=>
  rw[laT] at hx;have:=hx a[k] (uE _);rw[h] at this;cases this
def x2c (a:List RSt) (b:List Rou) (k:Nat):Prop:=((a.zip b).take k).all (fun p=>z0z p.1 p.2.secs.length)=true
def y1u (a:List Int) (k:Nat):Prop:=(a.take k).all (fun p=>decide (p=1) || decide (p=2))=true
theorem fits_any (v:z1w) (u:z1r) (w:World) (hr:TvR w v) (hs:y1j w u) (hsm:y4q v.t):Calls Tryz.prog 50 #[.agg (z0t v),.agg (z1v u)] w fun e w'=>e=.returned (.bool (y1h v.t u.i))∧Below w.heap.size w w':=by
 obtain ⟨W2,hW2⟩:∃ W,W=(w.alloc (.cells (z0t v) 33)).alloc (.cells (z1v u) 41):=⟨_,rfl⟩
 have hb2:Below w.heap.size w W2:=by rw[hW2];exact (bQ.alloc nL _).alloc (by simp) _
 have hx0:Blk W2 w.heap.size 33 (z0t v):=by rw[hW2];exact (Blk.new _ _ _ _ rfl).alloc _
 have hx1:Blk W2 (w.heap.size+1) 41 (z1v u):=by rw[hW2];exact Blk.new _ _ _ _ (by simp)
 have HCK:=hE (z8m v W2 (hr.now hb2) hsm);unfold tvA at HCK;have hn1:=hs.n1.1;have hn2:=hs.n2.1;have hm1:=hr.n1.1;unfold maxLen at hn1 hn2 hm1;obtain ⟨ck,hck⟩:∃ c,z4y v.t=c:=⟨_,rfl⟩
 rw[hck] at HCK;go_enter Tryz.func50,Tryz.ntmps50
 go_wp2_with fail;rw[←hW2];clear hW2;refine HCK.out.mono ?_;rintro e w3 ⟨rfl,hq3⟩;have hb3:=z00 hb2 hb2.size hq3;have hx03:=hx0.now hq3;have hx13:=hx1.now hq3;have HBX:=hE fun W' (h:Below w3.heap.size w3 W')=>aIq (hx03.now h) (hx13.now h)
 have x0:=hx03.cell 0;have x1:=hx03.cell 1;have y0:=hx13.cell 0;have y1:=hx13.cell 1;have l0:=hx03.lt;have l1:=hx13.lt;simp only[gqA,gqZ,gqS] at x0 x1 y0 y1;clear hx0 hx1 hb2 HCK hq3 hx03 hx13;by_cases hc0:ck=0;case neg=>
  have HX:=hE (x3g (s:=u.i) (hck▸hc0));have t1:(ck != 0)=true:=bne_iff_ne.2 hc0;clear hck;go_wp2_with fail
  go_ret;exact ⟨z0a HX.out.symm,hb3⟩
 subst hc0;by_cases hl1:u.i.rts.length=v.t.rts.length;case neg=>
  have HX:=hE (x3h hl1);have t1:((u.i.rts.length:Int) != (v.t.rts.length:Int))=true:=bne_iff_ne.2 (by omega);clear hck hl1;go_wp2_with fail
  go_ret;exact ⟨z0a HX.out.symm,hb3⟩
 by_cases hl2:u.i.lies.length=v.t.pts.length;case neg=>
  have HX:=hE (y8k hl2);have t1:((u.i.rts.length:Int) != (v.t.rts.length:Int))=false:=by rw[hl1];exact bne_self_eq_false _
  have t2:((u.i.lies.length:Int) != (v.t.pts.length:Int))=true:=bne_iff_ne.2 (by omega);clear hck hl1 hl2;go_wp2_with fail
  go_ret;exact ⟨z0a HX.out.symm,hb3⟩
 have HF:=hE (y3m hck hl1 hl2);have HL1:=hE hl1;have t1:((u.i.rts.length:Int) != (v.t.rts.length:Int))=false:=by rw[hl1];exact bne_self_eq_false _
 have t2:((u.i.lies.length:Int) != (v.t.pts.length:Int))=false:=by rw[hl2];exact bne_self_eq_false _
 have HSM:=hE hsm;clear hck hl1 hl2 hsm;go_wp2_with fail
 clear t1 t2;go_loopw [33] (fun i wr=>∃ k:Nat,k≤u.i.rts.length∧i=.int .i64 k∧Below w3.heap.size w3 wr∧Hid (x2c u.i.rts v.t.rts k)) (fun i _=>u.i.rts.length - (intOf i).toNat)
 case atStart=>exact ⟨0,nZ,rfl,bQ,hE (by unfold x2c;simp)⟩
 case round=>
  obtain ⟨k,hkl,rfl,hb,HK⟩:=hrel;have hbb:=z00 hb3 hb3.size hb;by_cases hlt:k < u.i.rts.length
  ·have hki:(k:Int) < (u.i.rts.length:Int):=by omega
   have hlt2:k < v.t.rts.length:=by rw[←HL1.out];exact hlt
   have hki2:(k:Int) < (v.t.rts.length:Int):=by omega
   obtain ⟨b,off,hA,lb,ho,z0,z1,z2⟩:=(hs.now hbb).r1.elX hlt;obtain ⟨b2,off2,rv,hA2,lb2,hre,hrv,q0,q1,q2,q3,q4,q5,q6,q7,q8,q9,q10,q11,q12,q13⟩:=(hr.now hbb).r1.elR hlt2;clear q0 q1 q2 q3 q4 q6 q7 q8 q9 q10 q11 q12 q13 hrv;have hsec:=(HSM.out _ (uE hlt2)).1;have HN:Hid (z0z u.i.rts[k] rv.r.secs.length=false→y1h v.t u.i=false):=hE fun h=>by
    rw[HF.out,j7q (p:=fun p=>z0z p.1 p.2.secs.length) hlt hlt2 (by rw[hre] at h;exact h)];rfl
   have HY:Hid (z0z u.i.rts[k] rv.r.secs.length=true→x2c u.i.rts v.t.rts (k+1)):=hE fun h=>by
    have hK:((u.i.rts.zip v.t.rts).take k).all (fun p=>z0z p.1 p.2.secs.length)=true:=HK.out;show ((u.i.rts.zip v.t.rts).take (k+1)).all (fun p=>z0z p.1 p.2.secs.length)=true;rw[x9z (p:=fun p=>z0z p.1 p.2.secs.length) hlt hlt2,hK];rw[hre] at h;simpa using h
   rw[←hre] at hsec;clear hre;generalize u.i.rts[k]=x at *;obtain ⟨bx,hbx⟩:=HBX.out wr hb;obtain ⟨W6,hW6⟩:∃ W,W=wr.alloc (.cells #[.int .i64 x.st,.int .i64 x.rel,.int .i64 x.tim] 58):=⟨_,rfl⟩
   have hbe6:Below wr.heap.size wr W6:=by rw[hW6];exact bQ.alloc nL _
   have hxs:Blk W6 wr.heap.size 58 #[.int .i64 x.st,.int .i64 x.rel,.int .i64 x.tim]:=by rw[hW6];exact Blk.new _ _ _ _ rfl
   have l6:=hxs.lt;have lw2:b2 < W6.heap.size:=nT lb2 hbe6.size;have lt6:=(bx.now hbe6).lt;have c5:=(hbe6.cell (p:=⟨b2,off2+k*14+5,none⟩) lb2).trans q5;have lb':b < wr.heap.size:=lb;rw[hA];have HR:=hE fun W'=>y4f x rv.r.secs.length W' (by omega)
   obtain ⟨rf,hrf⟩:∃ c,z0z x rv.r.secs.length=c:=⟨_,rfl⟩
   rw[hrf] at HR HN HY;have HSS:Hid (∀ W,Below W6.heap.size W6 W→(fun w'=>w'.cell? ⟨wr.heap.size,0,none⟩=some (.int .i64 x.st)∧w'.cell? ⟨wr.heap.size,1,none⟩=some (.int .i64 x.rel)∧w'.cell? ⟨wr.heap.size,2,none⟩=some (.int .i64 x.tim)∧w'.cell? ⟨w.heap.size,0,none⟩=some (.slice (some ⟨b2,off2,none⟩) v.t.rts.length v.c1)∧w'.cell? ⟨b2,off2+k*14+5,none⟩=some (.slice rv.A3 rv.r.secs.length rv.c3)∧Below W6.heap.size W6 w') W):=hE fun W h=>⟨(h.cell (p:=⟨wr.heap.size,0,none⟩) l6).trans (hxs.cell 0),(h.cell (p:=⟨wr.heap.size,1,none⟩) l6).trans (hxs.cell 1),(h.cell (p:=⟨wr.heap.size,2,none⟩) l6).trans (hxs.cell 2),(h.cell (p:=⟨w.heap.size,0,none⟩) lt6).trans (((bx.now hbe6).cell 0).trans (by unfold z0t;rw[hA2];rfl)),(h.cell (p:=⟨b2,off2+k*14+5,none⟩) lw2).trans c5,h⟩
   clear q5 c5 hrf bx hbx lw2 lt6 l6 HBX;go_wp2_with fail
   rw[←hW6];clear hW6 z0 z1 z2;refine rgS 10 HSS fun hHeld=>?_
   refine tkM 8 [0,1,2,3,4,5,6,7] ?_;refine rd1 8 rfl fun K hK=>?_
   go_simp;go_at_call 101
   refine (HR.out _).mono ?_;rintro e w7 ⟨rfl,hq7⟩;have hq7':Below W6.heap.size W6 w7:=bQ.drew.trans hq7;go_wp2_with fail
   refine hK.out _ _ (HSS.out _ hq7') (fun hHeld=>?_);clear hK K;try simp only[Act.put,lsa,lsz,lss]
   refine tkM 1 [9] ?_;refine wdn ?_;have hb7:=z00 hb hb.size (hbe6.trans (hq7'.mono hbe6.size));have hbb7:=z00 hb3 hb3.size hb7;clear HSS HR hq7 hq7' hHeld hbe6 hxs hb hbb
   cases rf with
   | false=>
    have HX:=hE (HN.out rfl);go_wp2_with fail
    go_ret
    exact ⟨z0a HX.out.symm,hbb7⟩
   | true=>
    have HX:=hE (HY.out rfl);go_wp2_with fail
    go_roundw
    case rel=>
     have hk1:k+1≤u.i.rts.length:=hlt;refine ⟨_,_,_,_,⟨k+1,hk1,?_,HX⟩,rfl,rfl,rfl,rfl⟩;go_num
    case measure=>simp[intOf];omega
  ·have hki:¬(k:Int) < (u.i.rts.length:Int):=by omega
   have HA:Hid (y1h v.t u.i=u.i.lies.all fun p=>decide (p=1) || decide (p=2)):=hE (by
    have h1:((u.i.rts.zip v.t.rts).take k).all (fun p=>z0z p.1 p.2.secs.length)=true:=HK.out;rw[tlL (by rw[List.length_zip,←HL1.out];omega)] at h1;rw[HF.out,h1];rfl)
   obtain ⟨bx,hbx⟩:=HBX.out wr hb;have u1:=hbx.cell 1;have lu:=hbx.lt;simp only[gqA,gqZ,gqS] at u1;clear HK HF HL1 HBX bx hbx hb x0 x1 y0 y1 l0 l1;go_wp2_with fail
   clear u1 lu;go_loopw [52] (fun i wx=>∃ k2:Nat,k2≤u.i.lies.length∧i=.int .i64 k2∧Hid (wx=wr)∧Hid (y1u u.i.lies k2)) (fun i _=>u.i.lies.length - (intOf i).toNat)
   case atStart=>exact ⟨0,nZ,rfl,hE rfl,hE (by unfold y1u;simp)⟩
   case round=>
    obtain ⟨k2,hkl2,rfl,HW,HK⟩:=hrel;have hw:=HW.out;subst hw;by_cases hlt2:k2 < u.i.lies.length
    ·have hki2:(k2:Int) < (u.i.lies.length:Int):=by omega
     obtain ⟨b,off,hA,lb,ho,z0⟩:=(hs.now hbb).r2.elI hlt2;have HS:=hE (z7e (p:=fun p:Int=>decide (p=1) || decide (p=2)) hlt2);have HNO:=hE (y3b (p:=fun p:Int=>decide (p=1) || decide (p=2)) hlt2);rw[hA];generalize u.i.lies[k2]=p at *;by_cases h1:p=1
     ·have t1:(p != 1)=false:=by rw[h1];rfl
      have HX:Hid (y1u u.i.lies (k2+1)):=hE (by unfold y1u;rw[HS.out,show (u.i.lies.take k2).all (fun p=>decide (p=1) || decide (p=2))=true from HK.out,h1];rfl);clear HS HNO h1;go_wp2_with fail
      go_roundw
      case rel=>
       have hk1:k2+1≤u.i.lies.length:=hlt2;refine ⟨k2+1,hk1,by go_num,?_,?_⟩
       ·exact hE (by first | rfl | trivial)
       exact HX
      case measure=>simp[intOf];omega
     by_cases h2:p=2
     ·have t1:(p != 1)=true:=bne_iff_ne.2 h1;have t2:(p != 2)=false:=by rw[h2];rfl
      have HX:Hid (y1u u.i.lies (k2+1)):=hE (by unfold y1u;rw[HS.out,show (u.i.lies.take k2).all (fun p=>decide (p=1) || decide (p=2))=true from HK.out,h2];rfl);clear HS HNO h1 h2;go_wp2_with fail
      go_roundw
      case rel=>
       have hk1:k2+1≤u.i.lies.length:=hlt2;refine ⟨k2+1,hk1,by go_num,?_,?_⟩
       ·exact hE (by first | rfl | trivial)
       exact HX
      case measure=>simp[intOf];omega
     ·have t1:(p != 1)=true:=bne_iff_ne.2 h1;have t2:(p != 2)=true:=bne_iff_ne.2 h2;have HX:Hid (y1h v.t u.i=false):=hE (by rw[HA.out];exact HNO.out (by simp[h1,h2]));clear HS HNO h1 h2;go_wp2_with fail
      go_ret;exact ⟨z0a HX.out.symm,hbb⟩
    ·have hki2:¬(k2:Int) < (u.i.lies.length:Int):=by omega
     have HX:Hid (y1h v.t u.i=true):=hE (by
      have h1:(u.i.lies.take k2).all (fun p=>decide (p=1) || decide (p=2))=true:=HK.out;rw[tlL (by omega)] at h1;rw[HA.out,h1])
     go_wp2_with fail;go_ret
     exact ⟨z0a HX.out.symm,hbb⟩
theorem j1d {a b:Rou} {la lb:List (Int × Int)} {k:Nat} (h:k < la.length) (hx:z88 a b lb la[k]=true):y6w a b la lb=true:=by
 unfold y6w;rw[List.any_eq_true];exact ⟨_,uE h,hx⟩
theorem x73 {a b:Rou} {la lb:List (Int × Int)} {k:Nat} (h:k < la.length) (hp:(la.take k).any (z88 a b lb)=false) (hx:z88 a b lb la[k]=false):(la.take (k+1)).any (z88 a b lb)=false:=by
 rw[tqS h,List.any_append,hp];simp[hx]
theorem y4u (a b:z2v) (la lb:List (Int × Int)) (A B:Option Addr) (ca cb:Nat) (w:World) (hra:RvR w (Lt w) a) (hrb:RvR w (Lt w) b) (hA:RdS cPr w (Lt w) A la) (hB:RdS cPr w (Lt w) B lb) (hla:la.length≤maxLen) (hlb:lb.length≤maxLen):Calls Tryz.prog 58 #[.agg (z0e a),.agg (z0e b),.slice A la.length ca,.slice B lb.length cb] w fun e w'=>e=.returned (.bool (y6w a.r b.r la lb))∧Below w.heap.size w w':=by
 obtain ⟨W2,hW2⟩:∃ W,W=(w.alloc (.cells (z0e a) 56)).alloc (.cells (z0e b) 56):=⟨_,rfl⟩
 have hb2:Below w.heap.size w W2:=by rw[hW2];exact (bQ.alloc nL _).alloc (by simp) _
 have hx0:Blk W2 w.heap.size 56 (z0e a):=by rw[hW2];exact (Blk.new _ _ _ _ rfl).alloc _
 have hx1:Blk W2 (w.heap.size+1) 56 (z0e b):=by rw[hW2];exact Blk.new _ _ _ _ (by simp)
 have l0:=hx0.lt;have l1:=hx1.lt;have HSS:Hid (∀ W,Below W2.heap.size W2 W→(fun w'=>w'.cell? ⟨w.heap.size,0,none⟩=some (.string (bs a.r.name))∧w'.cell? ⟨w.heap.size,1,none⟩=some (.int .i64 a.r.ent)∧w'.cell? ⟨w.heap.size,2,none⟩=some (.int .i64 a.r.ext)∧w'.cell? ⟨w.heap.size,3,none⟩=some (.slice a.A1 a.r.path.length a.c1)∧w'.cell? ⟨w.heap.size,4,none⟩=some (.slice a.A2 a.r.pts.length a.c2)∧w'.cell? ⟨w.heap.size,5,none⟩=some (.slice a.A3 a.r.secs.length a.c3)∧w'.cell? ⟨w.heap.size,6,none⟩=some (.int .i64 a.r.app)∧w'.cell? ⟨w.heap.size,7,none⟩=some (.int .i64 a.r.len)∧w'.cell? ⟨w.heap.size,8,none⟩=some (.slice a.A4 a.r.over.length a.c4)∧w'.cell? ⟨w.heap.size,9,none⟩=some (.slice a.A5 a.r.opts.length a.c5)∧w'.cell? ⟨w.heap.size,10,none⟩=some (.slice a.A6 a.r.osecs.length a.c6)∧w'.cell? ⟨w.heap.size,11,none⟩=some (.slice a.A7 a.r.flk.length a.c7)∧w'.cell? ⟨w.heap.size,12,none⟩=some (.slice a.A8 a.r.grd.length a.c8)∧w'.cell? ⟨w.heap.size,13,none⟩=some (.slice a.A9 a.r.gap.length a.c9)∧w'.cell? ⟨w.heap.size+1,0,none⟩=some (.string (bs b.r.name))∧w'.cell? ⟨w.heap.size+1,1,none⟩=some (.int .i64 b.r.ent)∧w'.cell? ⟨w.heap.size+1,2,none⟩=some (.int .i64 b.r.ext)∧w'.cell? ⟨w.heap.size+1,3,none⟩=some (.slice b.A1 b.r.path.length b.c1)∧w'.cell? ⟨w.heap.size+1,4,none⟩=some (.slice b.A2 b.r.pts.length b.c2)∧w'.cell? ⟨w.heap.size+1,5,none⟩=some (.slice b.A3 b.r.secs.length b.c3)∧w'.cell? ⟨w.heap.size+1,6,none⟩=some (.int .i64 b.r.app)∧w'.cell? ⟨w.heap.size+1,7,none⟩=some (.int .i64 b.r.len)∧w'.cell? ⟨w.heap.size+1,8,none⟩=some (.slice b.A4 b.r.over.length b.c4)∧w'.cell? ⟨w.heap.size+1,9,none⟩=some (.slice b.A5 b.r.opts.length b.c5)∧w'.cell? ⟨w.heap.size+1,10,none⟩=some (.slice b.A6 b.r.osecs.length b.c6)∧w'.cell? ⟨w.heap.size+1,11,none⟩=some (.slice b.A7 b.r.flk.length b.c7)∧w'.cell? ⟨w.heap.size+1,12,none⟩=some (.slice b.A8 b.r.grd.length b.c8)∧w'.cell? ⟨w.heap.size+1,13,none⟩=some (.slice b.A9 b.r.gap.length b.c9)∧Below W2.heap.size W2 w') W):=hE fun W h=>⟨(h.cell (p:=⟨w.heap.size,0,none⟩) l0).trans (hx0.cell 0),(h.cell (p:=⟨w.heap.size,1,none⟩) l0).trans (hx0.cell 1),(h.cell (p:=⟨w.heap.size,2,none⟩) l0).trans (hx0.cell 2),(h.cell (p:=⟨w.heap.size,3,none⟩) l0).trans (hx0.cell 3),(h.cell (p:=⟨w.heap.size,4,none⟩) l0).trans (hx0.cell 4),(h.cell (p:=⟨w.heap.size,5,none⟩) l0).trans (hx0.cell 5),(h.cell (p:=⟨w.heap.size,6,none⟩) l0).trans (hx0.cell 6),(h.cell (p:=⟨w.heap.size,7,none⟩) l0).trans (hx0.cell 7),(h.cell (p:=⟨w.heap.size,8,none⟩) l0).trans (hx0.cell 8),(h.cell (p:=⟨w.heap.size,9,none⟩) l0).trans (hx0.cell 9),(h.cell (p:=⟨w.heap.size,10,none⟩) l0).trans (hx0.cell 10),(h.cell (p:=⟨w.heap.size,11,none⟩) l0).trans (hx0.cell 11),(h.cell (p:=⟨w.heap.size,12,none⟩) l0).trans (hx0.cell 12),(h.cell (p:=⟨w.heap.size,13,none⟩) l0).trans (hx0.cell 13),(h.cell (p:=⟨w.heap.size+1,0,none⟩) l1).trans (hx1.cell 0),(h.cell (p:=⟨w.heap.size+1,1,none⟩) l1).trans (hx1.cell 1),(h.cell (p:=⟨w.heap.size+1,2,none⟩) l1).trans (hx1.cell 2),(h.cell (p:=⟨w.heap.size+1,3,none⟩) l1).trans (hx1.cell 3),(h.cell (p:=⟨w.heap.size+1,4,none⟩) l1).trans (hx1.cell 4),(h.cell (p:=⟨w.heap.size+1,5,none⟩) l1).trans (hx1.cell 5),(h.cell (p:=⟨w.heap.size+1,6,none⟩) l1).trans (hx1.cell 6),(h.cell (p:=⟨w.heap.size+1,7,none⟩) l1).trans (hx1.cell 7),(h.cell (p:=⟨w.heap.size+1,8,none⟩) l1).trans (hx1.cell 8),(h.cell (p:=⟨w.heap.size+1,9,none⟩) l1).trans (hx1.cell 9),(h.cell (p:=⟨w.heap.size+1,10,none⟩) l1).trans (hx1.cell 10),(h.cell (p:=⟨w.heap.size+1,11,none⟩) l1).trans (hx1.cell 11),(h.cell (p:=⟨w.heap.size+1,12,none⟩) l1).trans (hx1.cell 12),(h.cell (p:=⟨w.heap.size+1,13,none⟩) l1).trans (hx1.cell 13),h⟩
 have HF1:=hE fun W' (h:Below w.heap.size w W')=>y08 a b W' (hra.now h) (hrb.now h)
 have HF2:=hE fun W' (h:Below w.heap.size w W')=>y08 b a W' (hrb.now h) (hra.now h)
 unfold maxLen at hla;clear hx0 hx1 l0 l1 hra hrb;go_enter Tryz.func58,Tryz.ntmps58
 go_wp2_with fail;rw[←hW2];clear hW2;refine rgS 8 HSS fun hHeld=>?_
 refine tkM 4 [0,1,3,4] ?_;refine rd1 2 rfl fun K hK=>?_
 go_simp;go_at_call 104
 refine (HF1.out _ (z00 hb2 hb2.size bQ.drew)).mono ?_;rintro e w3 ⟨rfl,hq3⟩;have hq3':Below W2.heap.size W2 w3:=bQ.drew.trans hq3;go_wp2_with fail
 refine hK.out _ _ (HSS.out _ hq3') (fun hHeld=>?_);clear hK K;try simp only[Act.put,lsa,lsz,lss]
 refine rd1 5 rfl fun K hK=>?_
 go_simp;go_at_call 104
 refine (HF2.out _ (z00 hb2 hb2.size hq3')).mono ?_;rintro e w4 ⟨rfl,hq4⟩;have hq4':Below W2.heap.size W2 w4:=z00 hq3' hq3'.size hq4;go_wp2_with fail
 refine hK.out _ _ (HSS.out _ hq4') (fun hHeld=>?_);clear hK K;try simp only[Act.put,lsa,lsz,lss]
 refine tkM 2 [6,7] ?_;refine wdn ?_;have hb4:=z00 hb2 hb2.size hq4';clear HSS HF1 HF2 hq3 hq3' hq4 hq4' hb2 hHeld;obtain ⟨fa,hfa⟩:∃ x,x1w a.r b.r=x:=⟨_,rfl⟩
 obtain ⟨fb,hfb⟩:∃ x,x1w b.r a.r=x:=⟨_,rfl⟩
 rw[hfa,hfb];have HFA:=hE (aIq hfa hfb);clear hfa hfb;have HHA:=hE fun (x p:Int) W' (h:Below w.heap.size w W')=>j1o lb x p B cb W' (hB.now h) hlb
 clear hB;go_wp2_with fail
 go_loopw [21] (fun i wr=>∃ k:Nat,k≤la.length∧i=.int .i64 k∧Below w.heap.size w wr∧Hid ((la.take k).any (z88 a.r b.r lb)=false)) (fun i _=>la.length - (intOf i).toNat)
 case atStart=>exact ⟨0,nZ,rfl,hb4,hE (by simp)⟩
 case round=>
  obtain ⟨k,hkl,rfl,hb,HK⟩:=hrel;clear hb4;by_cases hlt:k < la.length
  ·have hki:(k:Int) < (la.length:Int):=by omega
   obtain ⟨bb,off,hAe,lbb,ho,y0,y1⟩:=(hA.now hb).j7u hlt;have HY:Hid (z88 a.r b.r lb la[k]=true→y6w a.r b.r la lb=true):=hE (j1d hlt);have HN:Hid (z88 a.r b.r lb la[k]=false→(la.take (k+1)).any (z88 a.r b.r lb)=false):=hE (x73 hlt HK.out);have hal:Below w.heap.size w (wr.alloc (.cells #[.int .i64 la[k].1,.int .i64 la[k].2] 170)):=hb.alloc hb.size _;have lw:bb < wr.heap.size:=lbb;rw[hAe];generalize la[k]=x at *;obtain ⟨n,q⟩:=x;dsimp only at *;obtain ⟨c0,hc0⟩:∃ c,decide ((n,(0:Int))∈lb)=c:=⟨_,rfl⟩
   obtain ⟨c1,hc1⟩:∃ c,decide ((n,(1:Int))∈lb)=c:=⟨_,rfl⟩
   have HC:Hid (z88 a.r b.r lb (n,q)=((c0 && (decide (q=0) || !fa)) || (c1 && (!fb && (decide (q=0) || !fa))))):=hE (by unfold z88;rw[HFA.out.1,HFA.out.2,hc0,hc1]);have H0:Hid (∀ W',Below w.heap.size w W'→Calls Tryz.prog 105 #[.slice B lb.length cb,.int .i64 n,.int .i64 0] W' fun e w'=>e=.returned (.bool c0)∧Below W'.heap.size W' w'):=hE fun W' h=>hc0▸HHA.out n 0 W' h
   have H1:Hid (∀ W',Below w.heap.size w W'→Calls Tryz.prog 105 #[.slice B lb.length cb,.int .i64 n,.int .i64 1] W' fun e w'=>e=.returned (.bool c1)∧Below W'.heap.size W' w'):=hE fun W' h=>hc1▸HHA.out n 1 W' h
   obtain ⟨W5,hW5⟩:∃ W,W=wr.alloc (.cells #[.int .i64 n,.int .i64 q] 170):=⟨_,rfl⟩
   rw[←hW5] at hal;have hbx:Blk W5 wr.heap.size 170 #[.int .i64 n,.int .i64 q]:=by rw[hW5];exact Blk.new _ _ _ _ rfl
   clear hc0 hc1 HHA hA HFA hAe lbb ho;go_wp2_with fail
   rw[←hW5];clear hW5;have u0:=hbx.cell 0;have u1:=hbx.cell 1;have lu:=hbx.lt;simp only[gqA,gqZ,gqS] at u0 u1;refine (H0.out _ hal).mono ?_;rintro e w6 ⟨rfl,hq6⟩;have hb6:=z00 hal hal.size hq6;have hbx6:=hbx.now hq6;have v0:=hbx6.cell 0;have v1:=hbx6.cell 1;have lv:=hbx6.lt;simp only[gqA,gqZ,gqS] at v0 v1;clear u0 u1 lu H0 hq6 hbx hal hb y0 y1 lw;by_cases hq0:q=0;case pos=>
    have t0:(q==0)=true:=by simpa using hq0
    cases c0 with
    | true=>
     have HX:=hE (HY.out (by rw[HC.out];simp[hq0]));clear HC HY HN HK;go_wp2_with fail
     go_ret
     exact ⟨z0a HX.out.symm,hb6⟩
    | false=>
     go_wp2_with fail;refine (H1.out _ hb6).mono ?_;rintro e w7 ⟨rfl,hq7⟩;have hb7:=z00 hb6 hb6.size hq7;have hbx7:=hbx6.now hq7;have r0:=hbx7.cell 0;have r1:=hbx7.cell 1;have lr:=hbx7.lt;simp only[gqA,gqZ,gqS] at r0 r1;clear v0 v1 lv hbx6 hbx7 hb6 hq7 H1
     cases c1 with
     | false=>
      have HX:=hE (HN.out (by rw[HC.out];simp[hq0]));clear HC HY HN HK;go_wp2_with fail
      go_roundw
      case rel=>
       have hk1:k+1≤la.length:=hlt;refine ⟨k+1,hk1,by go_num,hb7,?_⟩;exact HX
      case measure=>simp[intOf];omega
     | true=>
      cases fb with
      | true=>
       have HX:=hE (HN.out (by rw[HC.out];simp[hq0]));clear HC HY HN HK;go_wp2_with fail
       go_roundw
       case rel=>
        have hk1:k+1≤la.length:=hlt;refine ⟨k+1,hk1,by go_num,hb7,?_⟩;exact HX
       case measure=>simp[intOf];omega
      | false=>
       have HX:=hE (HY.out (by rw[HC.out];simp[hq0]));clear HC HY HN HK;go_wp2_with fail
       go_ret;exact ⟨z0a HX.out.symm,hb7⟩
   case neg=>
    have t0:(q==0)=false:=by simpa using hq0
    cases fa with
    | false=>
     cases c0 with
     | true=>
      have HX:=hE (HY.out (by rw[HC.out];simp[hq0]));clear HC HY HN HK;go_wp2_with fail
      go_ret
      exact ⟨z0a HX.out.symm,hb6⟩
     | false=>
      go_wp2_with fail;refine (H1.out _ hb6).mono ?_;rintro e w7 ⟨rfl,hq7⟩;have hb7:=z00 hb6 hb6.size hq7;have hbx7:=hbx6.now hq7;have r0:=hbx7.cell 0;have r1:=hbx7.cell 1;have lr:=hbx7.lt;simp only[gqA,gqZ,gqS] at r0 r1;clear v0 v1 lv hbx6 hbx7 hb6 hq7 H1
      cases c1 with
      | false=>
       have HX:=hE (HN.out (by rw[HC.out];simp[hq0]));clear HC HY HN HK;go_wp2_with fail
       go_roundw
       case rel=>
        have hk1:k+1≤la.length:=hlt;refine ⟨k+1,hk1,by go_num,hb7,?_⟩;exact HX
       case measure=>simp[intOf];omega
      | true=>
       cases fb with
       | true=>
        have HX:=hE (HN.out (by rw[HC.out];simp[hq0]));clear HC HY HN HK;go_wp2_with fail
        go_roundw
        case rel=>
         have hk1:k+1≤la.length:=hlt;refine ⟨k+1,hk1,by go_num,hb7,?_⟩;exact HX
        case measure=>simp[intOf];omega
       | false=>
        have HX:=hE (HY.out (by rw[HC.out];simp[hq0]));clear HC HY HN HK;go_wp2_with fail
        go_ret
        exact ⟨z0a HX.out.symm,hb7⟩
    | true=>
     cases c0 with
     | true=>
      go_wp2_with fail;refine (H1.out _ hb6).mono ?_;rintro e w7 ⟨rfl,hq7⟩;have hb7:=z00 hb6 hb6.size hq7;have hbx7:=hbx6.now hq7;have r0:=hbx7.cell 0;have r1:=hbx7.cell 1;have lr:=hbx7.lt;simp only[gqA,gqZ,gqS] at r0 r1;clear v0 v1 lv hbx6 hbx7 hb6 hq7 H1
      cases c1 with
      | false=>
       have HX:=hE (HN.out (by rw[HC.out];simp[hq0]));clear HC HY HN HK;go_wp2_with fail
       go_roundw
       case rel=>
        have hk1:k+1≤la.length:=hlt;refine ⟨k+1,hk1,by go_num,hb7,?_⟩;exact HX
       case measure=>simp[intOf];omega
      | true=>
       cases fb with
       | true=>
        have HX:=hE (HN.out (by rw[HC.out];simp[hq0]));clear HC HY HN HK;go_wp2_with fail
        go_roundw
        case rel=>
         have hk1:k+1≤la.length:=hlt;refine ⟨k+1,hk1,by go_num,hb7,?_⟩;exact HX
        case measure=>simp[intOf];omega
       | false=>
        have HX:=hE (HN.out (by rw[HC.out];simp[hq0]));clear HC HY HN HK;go_wp2_with fail
        go_roundw
        case rel=>
         have hk1:k+1≤la.length:=hlt;refine ⟨k+1,hk1,by go_num,hb7,?_⟩;exact HX
        case measure=>simp[intOf];omega
     | false=>
      go_wp2_with fail;refine (H1.out _ hb6).mono ?_;rintro e w7 ⟨rfl,hq7⟩;have hb7:=z00 hb6 hb6.size hq7;have hbx7:=hbx6.now hq7;have r0:=hbx7.cell 0;have r1:=hbx7.cell 1;have lr:=hbx7.lt;simp only[gqA,gqZ,gqS] at r0 r1;clear v0 v1 lv hbx6 hbx7 hb6 hq7 H1
      cases c1 with
      | false=>
       have HX:=hE (HN.out (by rw[HC.out];simp[hq0]));clear HC HY HN HK;go_wp2_with fail
       go_roundw
       case rel=>
        have hk1:k+1≤la.length:=hlt;refine ⟨k+1,hk1,by go_num,hb7,?_⟩;exact HX
       case measure=>simp[intOf];omega
      | true=>
       cases fb with
       | true=>
        have HX:=hE (HN.out (by rw[HC.out];simp[hq0]));clear HC HY HN HK;go_wp2_with fail
        go_roundw
        case rel=>
         have hk1:k+1≤la.length:=hlt;refine ⟨k+1,hk1,by go_num,hb7,?_⟩;exact HX
        case measure=>simp[intOf];omega
       | false=>
        have HX:=hE (HN.out (by rw[HC.out];simp[hq0]));clear HC HY HN HK;go_wp2_with fail
        go_roundw
        case rel=>
         have hk1:k+1≤la.length:=hlt;refine ⟨k+1,hk1,by go_num,hb7,?_⟩;exact HX
        case measure=>simp[intOf];omega
  ·have hki:¬(k:Int) < (la.length:Int):=by omega
   have HX:Hid (y6w a.r b.r la lb=false):=hE (by have:=HK.out;rwa [tlL (by omega)] at this);go_wp2_with fail
   go_ret;exact ⟨z0a HX.out.symm,hb⟩
end Go.Proofs.YtpenlfedkacglaaGreatDoor
namespace Go.Proofs.YtpenlfedkacglaaGreatDoor
structure j4u (t:Tab):Prop where
 nr:t.rts.length≤48
 np:t.pts.length≤32
 ns:0≤t.nsec∧t.nsec≤24
 ng:0≤t.nsig∧t.nsig≤20
 hl:t.homes.length=t.pts.length
 nd:t.pts.Nodup
 hm:∀ i < t.pts.length,0≤t.homes.getD i 0∧t.homes.getD i 0 < t.nsec
 ent:∀ r∈t.rts,0≤r.ent∧r.ent < t.nsig
 sec:∀ r∈t.rts,(∀ n∈r.secs++r.osecs,0≤n∧n < t.nsec)∧(r.secs++r.osecs).Nodup∧r.secs≠[]
 app:∀ r∈t.rts,0≤r.app∧r.app < t.nsec
 stg:∀ r∈t.rts,∀ x∈r.pts++(r.opts++r.flk),x.el∈t.pts∧(x.pos=1∨x.pos=2)
 fn:∀ r∈t.rts,x64 (r.pts++(r.opts++r.flk))
theorem z6l {t:Tab} {l:List Stg} (h:y0z t l=true):(∀ x∈l,x.el∈t.pts∧(x.pos=1∨x.pos=2))∧x64 l:=by
 unfold y0z at h;rw[laT] at h;have hs:∀ i (hi:i < l.length),l[i].el∈t.pts∧(l[i].pos=1∨l[i].pos=2)∧∀ (_:0 < i),l[i - 1].el < l[i].el:=by
  intro i hi;have:=h i (List.mem_range.2 hi);unfold stB at this;rw[show l.getD i zG=l[i] by simp[List.getD,hi]] at this;simp only[uT,Bool.or_eq_true,dET] at this;refine ⟨this.1,this.2.1,fun h0=>?_⟩;rw[show l.getD (i - 1) zG=l[i - 1] by simp[List.getD,show i - 1 < l.length by omega]] at this;rcases this.2.2 with h1 | h1
  ·omega
  ·exact h1
 refine ⟨fun x hx=>?_,j0q (List.pairwise_iff_getElem.2 fun i j hi hj hij=>?_)⟩
 ·obtain ⟨i,hi,rfl⟩:=List.mem_iff_getElem.1 hx;exact ⟨(hs i hi).1,(hs i hi).2.1⟩
 ·obtain ⟨d,rfl⟩:∃ d,j=i+d+1:=⟨j - i - 1,by omega⟩
  clear hij
  induction d with
  | zero=>exact (hs (i+0+1) hj).2.2 (by omega)
  | succ d ih=>
   have h1:=ih (by omega);have h2:=(hs (i+(d+1)+1) hj).2.2 (by omega);have h3:l[i+(d+1)+1 - 1]'(by omega)=l[i+d+1]'(by omega):=rfl;rw[h3] at h2;omega
theorem x2k {l:List Int} (h:∀ i,i < l.length→0 < i→l.getD (i - 1) 0 < l.getD i 0):l.Nodup:=by
 refine List.pairwise_iff_getElem.2 fun i j hi hj hij=>?_
 have:l[i] < l[j]:=by
  obtain ⟨d,rfl⟩:∃ d,j=i+d+1:=⟨j - i - 1,by omega⟩
  clear hij
  induction d with
  | zero=>
   have:=h (i+0+1) hj (by omega)
   rwa [show l.getD (i+0+1) 0=l[i+0+1] by simp[List.getD,hj],show l.getD (i+0+1 - 1) 0=l[i] by simp[List.getD,hi]] at this
  | succ d ih=>
   have h1:=ih (by omega);have h2:=h (i+(d+1)+1) hj (by omega);rw[show l.getD (i+(d+1)+1) 0=l[i+(d+1)+1] by simp[List.getD,hj],show l.getD (i+(d+1)+1 - 1) 0=l[i+d+1]'(by omega) by simp[List.getD,show i+(d+1) < l.length by omega];rfl] at h2;omega
 omega
theorem z8l {t:Tab} (h:z4y t=0):j4u t:=by
 obtain ⟨h1,h2,h3,h4,h5,h6⟩:=j0y h;unfold y5i at h1;simp only[uT,dET,z1f] at h1;unfold y4d at h2;simp only[uT,dET,laT,mRg] at h2;rw[laT] at h3 h4 h5;have hr:∀ r∈t.rts,(0≤r.ent∧r.ent≤t.nsig - 1)∧(∀ n∈r.secs++r.osecs,0≤n∧n≤t.nsec - 1)∧(r.secs++r.osecs).Nodup∧r.secs≠[]∧0≤r.app∧r.app≤t.nsec - 1:=by
  intro r hm;have:=h3 r hm;unfold z7r x5m at this;simp only[uT,dET,laT,z1f] at this;exact ⟨this.1,this.2.2.2.1.2.1,this.2.2.2.1.2.2,this.2.2.2.1.1,this.2.2.2.2.1.1,this.2.2.2.2.1.2⟩
 refine ⟨h1.1,h1.2.1,⟨h1.2.2.1.1,h1.2.2.1.2⟩,⟨h1.2.2.2.1,h1.2.2.2.2⟩,h2.1,x2k fun i hi h0=>?_,fun i hi=>?_,fun r hm=>?_,fun r hm=>?_,fun r hm=>?_,fun r hm x hx=>?_,fun r hm=>?_⟩
 ·have:=h2.2 i hi;unfold ptB at this;simp only[uT,Bool.or_eq_true,dET] at this;rcases this.2.1 with h7 | h7
  ·omega
  ·exact h7
 ·have:=h2.2 i hi;unfold ptB at this;simp only[uT,Bool.or_eq_true,dET,z1f] at this;omega
 ·have:=hr r hm;omega
 ·have:=hr r hm;exact ⟨fun n hn=>by have:=this.2.1 n hn;omega,this.2.2.1,this.2.2.2.1⟩
 ·have:=hr r hm;omega
 ·have:=h4 r hm;unfold setB at this;simp only[uT] at this;rcases List.mem_append.1 hx with hx | hx
  ·exact (z6l this.1).1 x hx
  ·rcases List.mem_append.1 hx with hx | hx
   ·exact (z6l this.2.1).1 x hx
   ·exact (z6l this.2.2).1 x hx
 ·have h8:=h4 r hm;unfold setB at h8;simp only[uT] at h8;have h9:=h5 r hm;unfold agB at h9;simp only[uT,y36] at h9;intro x hx y hy he;rcases List.mem_append.1 hx with hx | hx <;> rcases List.mem_append.1 hy with hy | hy
  ·exact (z6l h8.1).2 x hx y hy he
  ·rcases List.mem_append.1 hy with hy | hy
   ·exact h9.1 x hx y hy he
   ·exact h9.2.1 x hx y hy he
  ·rcases List.mem_append.1 hx with hx | hx
   ·exact (h9.1 y hy x hx he.symm).symm
   ·exact (h9.2.1 y hy x hx he.symm).symm
  ·rcases List.mem_append.1 hx with hx | hx <;> rcases List.mem_append.1 hy with hy | hy
   ·exact (z6l h8.2.1).2 x hx y hy he
   ·exact h9.2.2 x hx y hy he
   ·exact (h9.2.2 y hy x hx he.symm).symm
   ·exact (z6l h8.2.2).2 x hx y hy he
theorem z1o {r:Rou} {x:Stg}:x∈z1t r↔x∈r.pts++(r.opts++r.flk):=z4e
theorem z3w {t:Tab} {i:Nat} (h:i < t.rts.length):z0r t i∈t.rts:=by
 rw[show z0r t i=t.rts[i] by simp[z0r,List.getD,h]];exact uE h
structure j8c (t:Tab) (s:Itr):Prop where
 ck:z4y t=0
 n1:s.rts.length=t.rts.length
 n2:s.lies.length=t.pts.length
 rf:∀ i < t.rts.length,z0z (z1d s i) (z0r t i).secs.length=true
 ls:∀ p∈s.lies,p=1∨p=2
theorem z3s {t:Tab} {s:Itr}:y1h t s=true↔j8c t s:=by
 unfold y1h;simp only[uT,dET,laT,Bool.or_eq_true];constructor
 ·rintro ⟨h1,⟨h2,h3⟩,h4,h5⟩;refine ⟨h1,h2,h3,fun i hi=>?_,h5⟩;have hi2:i < s.rts.length:=by omega
  have:(s.rts[i],t.rts[i])∈s.rts.zip t.rts:=by
   rw[List.mem_iff_getElem];exact ⟨i,by simp;omega,by simp⟩
  have:=h4 _ this;rw[show z1d s i=s.rts[i] by simp[z1d,List.getD,hi2],show z0r t i=t.rts[i] by simp[z0r,List.getD,hi]];exact this
 ·rintro ⟨h1,h2,h3,h4,h5⟩;refine ⟨h1,⟨h2,h3⟩,fun p hp=>?_,h5⟩;obtain ⟨i,hi,rfl⟩:=List.mem_iff_getElem.1 hp;simp only[List.length_zip] at hi;have:=h4 i (by omega);rw[show z1d s i=s.rts[i]'(by omega) by simp[z1d,List.getD,show i < s.rts.length by omega],show z0r t i=t.rts[i]'(by omega) by simp[z0r,List.getD,show i < t.rts.length by omega]] at this;simpa using this
def Apart (a b:Rou) (la lb:List (Int × Int)):Prop:=∀ n,¬((n,(0:Int))∈la∧(n,(0:Int))∈lb)∧((n,(0:Int))∈la→(n,(1:Int))∈lb→x1w b a=true)∧((n,(1:Int))∈la→(n,(0:Int))∈lb→x1w a b=true)∧((n,(1:Int))∈la→(n,(1:Int))∈lb→x1w a b=true∨x1w b a=true)
def Part (l:List (Int × Int)):Prop:=∀ x∈l,x.2=0∨x.2=1
theorem z9j (r:Rou) (s:RSt):Part (z3l r s):=by
 intro x hx;unfold z3l at hx;rcases List.mem_append.1 hx with hx | hx <;> (obtain ⟨n,-,rfl⟩:=List.mem_map.1 hx;simp)
theorem z9d {a b:Rou} {la lb:List (Int × Int)} (hp:Part la):y6w a b la lb=false↔Apart a b la lb:=by
 unfold y6w Apart;rw[List.any_eq_false];constructor
 ·intro h n;have h0:(n,(0:Int))∈la→_:=fun hm=>h _ hm
  have h1:(n,(1:Int))∈la→_:=fun hm=>h _ hm
  unfold z88 at h0 h1;simp only[dET,Bool.or_eq_true,uT,Bool.not_eq_true'] at h0 h1;refine ⟨fun hm=>?_,fun hm1 hm2=>?_,fun hm1 hm2=>?_,fun hm1 hm2=>?_⟩
  ·have:=h0 hm.1;simp[hm.2] at this
  ·have:=h0 hm1;simp[hm2] at this;exact this.2
  ·have:=h1 hm1;simp[hm2] at this;exact this.1
  ·have:=h1 hm1;simp[hm2] at this;by_cases hf:x1w b a=true
   ·exact Or.inr hf
   ·exact Or.inl (this.2 (by simpa using hf))
 ·intro h x hx;obtain ⟨n,k⟩:=x;obtain ⟨h1,h2,h3,h4⟩:=h n;unfold z88;rcases hp _ hx with hk | hk
  ·simp only at hk;subst hk;have e1:(n,(0:Int))∉lb:=fun hm=>h1 ⟨hx,hm⟩
   by_cases e2:(n,(1:Int))∈lb
   ·simp[e1,e2,h2 hx e2]
   ·simp[e1,e2]
  ·simp only at hk;subst hk;by_cases e1:(n,(0:Int))∈lb <;> by_cases e2:(n,(1:Int))∈lb
   ·have:=h3 hx e1;simp[e1,e2,this]
   ·have:=h3 hx e1;simp[e1,e2,this]
   ·rcases h4 hx e2 with h | h <;> simp[e1,e2,h]
   ·simp[e1,e2]
theorem Apart.symm {a b:Rou} {la lb:List (Int × Int)} (h:Apart a b la lb):Apart b a lb la:=fun n=>
 have h:=h n
 ⟨fun hm=>h.1 ⟨hm.2,hm.1⟩,fun h1 h2=>h.2.2.1 h2 h1,fun h1 h2=>h.2.1 h2 h1,fun h1 h2=>(h.2.2.2 h2 h1).symm⟩
theorem Apart.sub {a b:Rou} {la lb la' lb':List (Int × Int)} (h:Apart a b la lb) (ha:∀ x∈la',x∈la) (hb:∀ x∈lb',x∈lb):Apart a b la' lb':=fun n=>
 have h:=h n
 ⟨fun hm=>h.1 ⟨ha _ hm.1,hb _ hm.2⟩,fun h1 h2=>h.2.1 (ha _ h1) (hb _ h2),fun h1 h2=>h.2.2.1 (ha _ h1) (hb _ h2),fun h1 h2=>h.2.2.2 (ha _ h1) (hb _ h2)⟩
structure z9u (t:Tab) (s:Itr):Prop where
 fit:j8c t s
 ap:∀ a b,a < t.rts.length→b < t.rts.length→a≠b→Apart (z0r t a) (z0r t b) (z3l (z0r t a) (z1d s a)) (z3l (z0r t b) (z1d s b))
 hd:∀ i < t.rts.length,∀ x∈z4s t (z0r t i) (z1d s i),z4u t s x=true
theorem z1j {t:Tab} {s:Itr}:z7z t s=true↔z9u t s:=by
 unfold z7z apartB y3s;simp only[uT,laT,mRg,Bool.not_eq_true',z3s];constructor
 ·rintro ⟨h1,h2,h3⟩;refine ⟨h1,fun a b ha hb hab=>?_,h3⟩;rcases Nat.lt_or_gt_of_ne hab with h | h
  ·exact ((z9d (z9j _ _)).1 (h2 b hb a h)).symm
  ·exact (z9d (z9j _ _)).1 (h2 a ha b h)
 ·rintro ⟨h1,h2,h3⟩;exact ⟨h1,fun a ha b hb=>(z9d (z9j _ _)).2 (h2 a b ha (by omega) (by omega)),h3⟩
structure x2d (t:Tab) (r:Rou) (s s':RSt):Prop where
 lck:∀ x∈z3l r s',x∈z3l r s
 bnd:∀ x∈z4s t r s',x∈z4s t r s
theorem x9v {α:Type} {l:List α} {m n:Nat} (h:m≤n) {x:α} (hx:x∈l.take m):x∈l.take n:=by
 rw[show l.take m=(l.take n).take m by rw[List.take_take,Nat.min_eq_left h]] at hx;exact List.mem_of_mem_take hx
theorem x78 {α:Type} {l:List α} {m n:Nat} (h:m≤n) {x:α} (hx:x∈l.drop n):x∈l.drop m:=by
 rw[show l.drop n=(l.drop m).drop (n - m) by rw[List.drop_drop,show m+(n - m)=n by omega]] at hx;exact List.mem_of_mem_drop hx
theorem y7h {t:Tab} {r:Rou} {s s':RSt} (h:s'.st=0∨(s.st≠0∧s.rel≤s'.rel)):x2d t r s s':=by
 rcases h with h | ⟨h0,h1⟩
 ·exact ⟨by simp[z3l,z1p,z7n,h],by simp[z4s,h]⟩
 ·by_cases h2:s'.st=0
  ·exact ⟨by simp[z3l,z1p,z7n,h2],by simp[z4s,h2]⟩
  have hn:s.rel.toNat≤s'.rel.toNat:=by omega
  refine ⟨fun x hx=>?_,fun x hx=>?_⟩
  ·unfold z3l z1p z7n at hx ⊢;rw[if_neg h2,if_neg h2] at hx;rw[if_neg h0,if_neg h0];rcases List.mem_append.1 hx with hx | hx
   ·obtain ⟨n,hn2,rfl⟩:=List.mem_map.1 hx;exact List.mem_append_left _ (List.mem_map.2 ⟨n,x78 hn hn2,rfl⟩)
   ·exact List.mem_append_right _ hx
  ·unfold z4s at hx ⊢;rw[if_neg h2] at hx;rw[if_neg h0];rw[z1o] at hx ⊢;simp only at hx ⊢;rcases List.mem_append.1 hx with hx | hx
   ·refine List.mem_append_left _ ?_;unfold j4r at hx ⊢;rw[List.mem_filter] at hx ⊢;refine ⟨hx.1,?_⟩;have:=hx.2;simp only[Bool.not_eq_true',decide_eq_false_iff_not] at this ⊢;exact fun hm=>this (x9v hn hm)
   ·exact List.mem_append_right _ hx
theorem y5r {t:Tab} {s:Itr} {i:Inp} (h:j8c t s) {r:Nat} (hr:r < t.rts.length):z0z (z7c t s i r) (z0r t r).secs.length=true∧x2d t (z0r t r) (z1d s r) (z7c t s i r):=by
 have hk:=z8l h.ck;have hrf:=h.rf r hr;have hne:=(hk.sec _ (z3w hr)).2.2;have hn:0 < (z0r t r).secs.length:=List.length_pos_iff.2 hne;have hst:y1h t s=true:=z3s.2 h;unfold z7c;rw[hst,if_neg (by simp)];generalize z0r t r=q at *;have hz:z0z zS q.secs.length=true∧x2d t q (z1d s r) zS:=⟨by simp[z0z,zS],y7h (Or.inl rfl)⟩
 have hmk:∀ x:RSt,z0z x q.secs.length=true→(z1d s r).st≠0→(z1d s r).rel≤x.rel→z0z x q.secs.length=true∧x2d t q (z1d s r) x:=fun x h1 h2 h3=>⟨h1,y7h (Or.inr ⟨h2,h3⟩)⟩
 have hclr:(z1d s r).st≠0→(z1d s r).rel=0→∀ cla can,z0z (y2c t i q cla can) q.secs.length=true∧x2d t q (z1d s r) (y2c t i q cla can):=by
  intro h1 h2 cla can;unfold y2c;split
  ·exact hmk _ (by simp[z0z];omega) h1 (by simp[h2])
  ·split
   ·exact hz
   ·split
    ·exact hmk _ (by simp[z0z];omega) h1 (by simp[h2])
    ·exact hmk _ (by simp[z0z]) h1 (by simp[h2])
 generalize z1d s r=x at *;have hrf':=hrf;unfold z0z at hrf;split
 ·rename_i h1;rw[if_pos (by omega)] at hrf;simp only[uT,dET] at hrf;split
  ·exact hz
  ·split
   ·exact ⟨hrf',y7h (Or.inr ⟨by omega,Int.le_refl _⟩)⟩
   ·exact hclr (by omega) hrf.1 _ _
 ·split
  ·rename_i h1;rw[if_pos (by omega)] at hrf;simp only[uT,dET] at hrf;exact hclr (by omega) hrf.1 _ _
  ·split
   ·rename_i h1;rw[if_neg (by omega),if_pos h1] at hrf;simp only[uT,Bool.or_eq_true,dET] at hrf;unfold z9t;split
    ·exact hmk _ (by simp[z0z];omega) (by omega) (by simp)
    ·split
     ·exact hmk _ (by simp[z0z];omega) (by omega) (by simp)
     ·split
      ·split
       ·exact hz
       ·split
        ·exact hmk _ (by simp[z0z];omega) (by omega) (by simp;omega)
        ·exact hmk _ (by simp[z0z];omega) (by omega) (by simp)
      ·split
       ·exact hmk _ (by simp[z0z];omega) (by omega) (by simp)
       ·split
        ·exact hz
        ·exact hmk _ (by simp[z0z];omega) (by omega) (by simp)
   ·split
    ·rename_i h1;rw[if_neg (by omega),if_neg (by omega),if_pos h1] at hrf;simp only[uT,dET] at hrf;unfold x0q;split
     ·exact hmk _ (by simp[z0z];omega) (by omega) (by simp)
     ·split
      ·exact hmk _ (by simp[z0z];omega) (by omega) (by simp)
      ·split
       ·exact hz
       ·exact hmk _ (by simp[z0z];omega) (by omega) (by simp)
    ·exact hz
theorem step_ok {t:Tab} {s:Itr} {i:Inp} (h:z9u t s):z9u t ⟨(List.range s.rts.length).map (z7c t s i),s.lies⟩:=by
 have hat:∀ r,r < t.rts.length→z1d ⟨(List.range s.rts.length).map (z7c t s i),s.lies⟩ r=z7c t s i r:=by
  intro r hr;have:r < s.rts.length:=by rw[h.fit.n1];exact hr
  simp[z1d,List.getD,this]
 refine ⟨⟨h.fit.ck,by simp[h.fit.n1],h.fit.n2,fun r hr=>?_,h.fit.ls⟩,fun a b ha hb hab=>?_,fun r hr x hx=>?_⟩
 ·rw[hat r hr];exact (y5r h.fit hr).1
 ·rw[hat a ha,hat b hb];exact (h.ap a b ha hb hab).sub (y5r h.fit ha).2.lck (y5r h.fit hb).2.lck
 ·rw[hat r hr] at hx;exact h.hd r hr x ((y5r h.fit hr).2.bnd x hx)
theorem j6t {t:Tab} (hk:j4u t) {k:Nat} (h:k < t.pts.length):plF t t.pts[k]=k:=x0s hk.nd h
theorem y4b {t:Tab} {x:Int} (h:x∈t.pts):0≤plF t x∧(plF t x).toNat < t.pts.length∧t.pts[(plF t x).toNat]? = some x:=by
 have h1:=y8p h;have h2:=(z8e t.pts x).2;exact ⟨h1.1,by unfold plF;omega,h1.2⟩
theorem x4z {t:Tab} {x y:Int} (hx:x∈t.pts) (hy:y∈t.pts) (h:(plF t x).toNat=(plF t y).toNat):x=y:=by
 have h1:=(y4b hx).2.2;have h2:=(y4b hy).2.2;rw[h,h2] at h1;exact (sJ h1).symm
def x1x (t:Tab) (l:List Int) (x:Stg):List Int:=l.set (plF t x.el).toNat x.pos
theorem x3t {t:Tab}:∀ (xs:List Stg) (l:List Int),(xs.foldl (x1x t) l).length=l.length:=by
 intro xs
 induction xs with
 | nil=>intro l;rfl
 | cons x r ih=>intro l;rw[List.foldl_cons,ih];simp[x1x]
theorem y7d {t:Tab} {k:Nat}:∀ (xs:List Stg) (l:List Int),(∀ x∈xs,(plF t x.el).toNat≠k)→(xs.foldl (x1x t) l).getD k 0=l.getD k 0:=by
 intro xs
 induction xs with
 | nil=>intro l _;rfl
 | cons x r ih=>
  intro l h;rw[List.foldl_cons,ih _ fun y hy=>h y (mCm _ hy)];have:=h x mCs;simp[x1x,List.getD,List.getElem?_set,this]
theorem x3s {t:Tab}:∀ (xs:List Stg) (l:List Int),x64 xs→(∀ x∈xs,x.el∈t.pts)→l.length=t.pts.length→∀ x∈xs,(xs.foldl (x1x t) l).getD (plF t x.el).toNat 0=x.pos:=by
 intro xs
 induction xs with
 | nil=>intro l _ _ _ x hx;cases hx
 | cons y r ih=>
  intro l hf hm hl x hx;rw[List.foldl_cons];have hf':x64 r:=fun a ha b hb=>hf a (mCm _ ha) b (mCm _ hb)
  have hm':∀ a∈r,a.el∈t.pts:=fun a ha=>hm a (mCm _ ha)
  have hl':(x1x t l y).length=t.pts.length:=by simp[x1x,hl]
  by_cases hxr:x∈r
  ·exact ih _ hf' hm' hl' x hxr
  ·by_cases hex:∃ z∈r,(plF t z.el).toNat=(plF t x.el).toNat
   ·obtain ⟨z,hz,he⟩:=hex;have h1:=x4z (hm' z hz) (hm x hx) he;rw[←he,ih _ hf' hm' hl' z hz];exact hf z (mCm _ hz) x hx h1
   ·rw[y7d r _ fun z hz e=>hex ⟨z,hz,e⟩];rcases List.mem_cons.1 hx with rfl | h
    ·have:=(y4b (hm x hx)).2.1;simp[x1x,List.getD,hl,this]
    ·exact absurd h hxr
theorem j2b {t:Tab}:∀ (xs:List Stg) (l:List Int) (p:Int),p∈xs.foldl (x1x t) l→p∈l∨∃ x∈xs,x.pos=p:=by
 intro xs
 induction xs with
 | nil=>intro l p h;exact Or.inl h
 | cons x r ih=>
  intro l p h;rcases ih _ _ h with h | ⟨y,h1,h2⟩
  ·rcases List.mem_or_eq_of_mem_set h with h | h
   ·exact Or.inl h
   ·exact Or.inr ⟨x,mCs,h.symm⟩
  ·exact Or.inr ⟨y,mCm _ h1,h2⟩
structure j9z (t:Tab) (s:Itr) (i:Inp) (r:Nat):Prop where
 snd:z9u t s
 lt:r < t.rts.length
 idle:(z1d s r).st=0
 ap:∀ o < t.rts.length,o≠r→Apart (z0r t r) (z0r t o) (z3l (z0r t r) ⟨1,0,0⟩) (z3l (z0r t o) (z1d s o))
 ag:∀ o < t.rts.length,o≠r→∀ x∈z1t (z0r t r),∀ y∈z4s t (z0r t o) (z1d s o),x.el=y.el→x.pos=y.pos
 us:∀ x∈z1t (z0r t r),z4u t s x=true∨z2t i.occ (x67 t (plF t x.el))=false
theorem x3n {t:Tab} {s:Itr} {i:Inp} {r:Int} (h:y75 t s i r=0):0≤r∧j9z t s i r.toNat:=by
 unfold y75 at h;split at h
 ·cases h
 rename_i h1;simp only[not_or,Bool.not_eq_false,Int.not_lt,Int.not_le] at h1;split at h
 ·cases h
 rename_i h2;split at h
 ·cases h
 split at h
 ·cases h
 rename_i h4;split at h
 ·cases h
 rename_i h5;split at h
 ·cases h
 rename_i h6;simp only[Bool.not_eq_true,List.any_eq_false,mRg,uT,Bool.not_eq_true',decide_eq_false_iff_not,not_and,Bool.not_eq_true,Bool.not_eq_false] at h4 h5 h6;refine ⟨by omega,z1j.1 h1.1,by omega,by simpa using h2,fun o ho hor=>?_,fun o ho hor=>?_,fun x hx=>?_⟩
 ·exact (z9d (z9j _ _)).1 (h4 o ho hor)
 ·exact y36.1 (h5 o ho hor)
 ·by_cases hl:z4u t s x=true
  ·exact Or.inl hl
  ·exact Or.inr (h6 x hx (by simpa using hl))
theorem x0c {t:Tab} {r:Rou} {x:Stg} (h:x∈z4s t r ⟨1,0,0⟩):x∈z1t r:=by
 unfold z4s at h;rw[if_neg (by decide)] at h;rw[z1o] at h ⊢;rcases List.mem_append.1 h with h | h
 ·exact List.mem_append_left _ (List.mem_filter.1 h).1
 ·exact List.mem_append_right _ h
theorem y8d {t:Tab} {s:Itr} {i:Inp} {r:Int} (h:y75 t s i r=0):y3e t i s r=⟨s.rts.set r.toNat ⟨1,0,0⟩,(z1t (z0r t r.toNat)).foldl (x1x t) s.lies⟩:=by
 unfold y3e;rw[if_pos h];rfl
theorem j0u {t:Tab} (hk:j4u t) {o:Nat} (ho:o < t.rts.length) {s:RSt} {x:Stg} (h:x∈z4s t (z0r t o) s):x.el∈t.pts:=by
 unfold z4s at h;split at h
 ·cases h
 ·rw[z1o] at h;refine (hk.stg _ (z3w ho) x ?_).1;rcases List.mem_append.1 h with h | h
  ·exact List.mem_append_left _ (List.mem_filter.1 h).1
  ·exact List.mem_append_right _ h
theorem j06 {t:Tab} {s:Itr} {i:Inp} (r:Int) (h:z9u t s):z9u t (y3e t i s r):=by
 by_cases hf:y75 t s i r=0;case neg=>unfold y3e;rw[if_neg hf];exact h
 rw[y8d hf];obtain ⟨h0,F⟩:=x3n hf;have hk:=z8l h.fit.ck;generalize r.toNat=q at *;have hfn:x64 (z1t (z0r t q)):=fun x hx y hy=>hk.fn _ (z3w F.lt) x (z1o.1 hx) y (z1o.1 hy)
 have hpt:∀ x∈z1t (z0r t q),x.el∈t.pts∧(x.pos=1∨x.pos=2):=fun x hx=>hk.stg _ (z3w F.lt) x (z1o.1 hx)
 have hq:∀ o,z1d ⟨s.rts.set q ⟨1,0,0⟩,(z1t (z0r t q)).foldl (x1x t) s.lies⟩ o=if o=q then ⟨1,0,0⟩ else z1d s o:=by
  intro o;have hl:q < s.rts.length:=by rw[h.fit.n1];exact F.lt
  unfold z1d;simp only[List.getD,List.getElem?_set];by_cases e:o=q
  ·subst e;simp[hl]
  ·rw[if_neg (fun e'=>e e'.symm),if_neg e]
 refine ⟨⟨h.fit.ck,by simp[h.fit.n1],by simp only;rw[x3t];exact h.fit.n2,fun o ho=>?_,fun p hp=>?_⟩,fun a b ha hb hab=>?_,fun o ho x hx=>?_⟩
 ·rw[hq];split
  ·simp[z0z]
  ·exact h.fit.rf o ho
 ·rcases j2b _ _ _ hp with hp | ⟨x,hx,rfl⟩
  ·exact h.fit.ls p hp
  ·exact (hpt x hx).2
 ·rw[hq,hq];by_cases e1:a=q
  ·subst e1;rw[if_pos rfl,if_neg (fun e=>hab e.symm)];exact F.ap b hb (fun e=>hab e.symm)
  ·rw[if_neg e1];by_cases e2:b=q
   ·subst e2;rw[if_pos rfl];exact (F.ap a ha e1).symm
   ·rw[if_neg e2];exact h.ap a b ha hb hab
 ·rw[hq] at hx;unfold z4u;simp only[dET];by_cases e:o=q
  ·subst e;rw[if_pos rfl] at hx;exact x3s _ _ hfn (fun y hy=>(hpt y hy).1) h.fit.n2 x (x0c hx)
  ·rw[if_neg e] at hx;have hxm:=j0u hk ho hx;by_cases hex:∃ y∈z1t (z0r t q),(plF t y.el).toNat=(plF t x.el).toNat
   ·obtain ⟨y,hy,he⟩:=hex;have h1:=x4z (hpt y hy).1 hxm he;rw[←he,x3s _ _ hfn (fun y hy=>(hpt y hy).1) h.fit.n2 y hy];exact F.ag o ho e y hy x hx h1
   ·rw[y7d _ _ fun y hy e'=>hex ⟨y,hy,e'⟩];have:=h.hd o ho x hx;unfold z4u at this;simpa using this
theorem y6t {t:Tab} {i:Inp}:∀ (l:List Int) (s:Itr),z9u t s→z9u t (l.foldl (y3e t i) s):=by
 intro l
 induction l with
 | nil=>intro s h;exact h
 | cons r k ih=>intro s h;exact ih _ (j06 r h)
theorem y8h {t:Tab} {s:Itr} {i:Inp} (h:z9u t s):z9u t (z1s t s i):=by
 unfold z1s;rw[if_pos (z1j.2 h)];exact y6t _ _ (step_ok h)
theorem x5s {t:Tab} (h:z4y t=0):z9u t (x26 t):=by
 unfold x26;rw[if_pos h];have hs:∀ r,z1d ⟨t.rts.map fun _=>zS,t.pts.map fun _=>1⟩ r=zS:=by
  intro r;unfold z1d;simp only[List.getD,List.getElem?_map];cases t.rts[r]? <;> rfl
 refine ⟨⟨h,by simp,by simp,fun i _=>by rw[hs];simp[z0z,zS],fun p hp=>?_⟩,fun a b _ _ _ n=>?_,fun i _ x hx=>?_⟩
 ·obtain ⟨_,_,rfl⟩:=List.mem_map.1 hp;exact Or.inl rfl
 ·rw[hs,hs];simp[z3l,z1p,z7n,zS]
 ·rw[hs] at hx;simp[z4s,zS] at hx
theorem j7b {t:Tab}:∀ (l:List Inp) (s:Itr),z9u t s→z9u t (j3l t s l):=by
 intro l
 induction l with
 | nil=>intro s h;exact h
 | cons i k ih=>intro s h;exact ih _ (y8h h)
theorem x2s {t:Tab} {i:Inp} {k:Nat} (hk:j4u t) (hkl:k < t.pts.length):∀ (l:List Int) (s:Itr),z9u t s→z2t i.occ (t.homes.getD k 0)=true→(l.foldl (y3e t i) s).lies.getD k 0=s.lies.getD k 0:=by
 intro l
 induction l with
 | nil=>intro s _ _;rfl
 | cons r q ih=>
  intro s h ho;rw[List.foldl_cons,ih _ (j06 r h) ho];by_cases hf:y75 t s i r=0;case neg=>unfold y3e;rw[if_neg hf]
  rw[y8d hf];simp only;obtain ⟨h0,F⟩:=x3n hf;have hpt:∀ x∈z1t (z0r t r.toNat),x.el∈t.pts∧(x.pos=1∨x.pos=2):=fun x hx=>hk.stg _ (z3w F.lt) x (z1o.1 hx)
  have hfn:x64 (z1t (z0r t r.toNat)):=fun x hx y hy=>hk.fn _ (z3w F.lt) x (z1o.1 hx) y (z1o.1 hy)
  by_cases hex:∃ y∈z1t (z0r t r.toNat),(plF t y.el).toNat=k
  ·obtain ⟨y,hy,he⟩:=hex;rw[←he,x3s _ _ hfn (fun y hy=>(hpt y hy).1) h.fit.n2 y hy];rcases F.us y hy with h1 | h1
   ·unfold z4u at h1;simpa using (oDt h1).symm
   ·unfold x67 at h1;rw[he,ho] at h1;cases h1
  ·exact y7d _ _ fun y hy e'=>hex ⟨y,hy,e'⟩
theorem x77 {t:Tab} {s:Itr} {i:Inp} (h:z9u t s) {k:Nat} (hk:k < t.pts.length) (hc:(z1s t s i).lies.getD k 0≠s.lies.getD k 0):z2t i.occ (t.homes.getD k 0)=false:=by
 unfold z1s at hc;rw[if_pos (z1j.2 h)] at hc
 cases hr:z2t i.occ (t.homes.getD k 0) with
 | false=>rfl
 | true=>exact absurd (x2s (z8l h.fit.ck) hk _ _ (step_ok h) hr) hc
theorem x0h {t:Tab} {i:Inp} {k:Nat}:∀ (l:List Int) (s:Itr),(z1d (l.foldl (y3e t i) s) k).st=2→(z1d s k).st=2:=by
 intro l
 induction l with
 | nil=>intro s h;exact h
 | cons r q ih=>
  intro s h;have h:=ih _ h;by_cases hf:y75 t s i r=0;case neg=>unfold y3e at h;rwa [if_neg hf] at h
  rw[y8d hf] at h;unfold z1d at h ⊢;simp only[List.getD,List.getElem?_set] at h ⊢;split at h
  ·split at h <;> simp[zS] at h
  ·exact h
theorem x2y {t:Tab} {s:Itr} {i:Inp} (h:z9u t s) {k:Nat} (hk:k < t.rts.length) (hc:(z1d (z1s t s i) k).st=2):∀ n∈(z0r t k).secs++(z0r t k).osecs,z2t i.occ n=false:=by
 unfold z1s at hc;rw[if_pos (z1j.2 h)] at hc;have hc:=x0h _ _ hc;have hat:z1d ⟨(List.range s.rts.length).map (z7c t s i),s.lies⟩ k=z7c t s i k:=by
  have:k < s.rts.length:=by rw[h.fit.n1];exact hk
  simp[z1d,List.getD,this]
 rw[hat] at hc;have hclr:∀ q cla can,(y2c t i q cla can).st=2→y64 t i q=true:=by
  intro q cla can h;unfold y2c at h;repeat' (split at h)
  ·cases h
  ·cases h
  ·cases h
  ·rename_i h3;simp only[Bool.or_eq_true,Bool.not_eq_true',not_or,Bool.not_eq_false] at h3;exact h3.2
 have hp:y64 t i (z0r t k)=true:=by
  unfold z7c at hc;rw[z3s.2 h.fit,if_neg (by simp)] at hc;split at hc
  ·rename_i h1;split at hc
   ·cases hc
   ·split at hc
    ·rw[h1] at hc;cases hc
    ·exact hclr _ _ _ hc
  ·split at hc
   ·exact hclr _ _ _ hc
   ·split at hc
    ·exfalso;unfold z9t at hc;repeat' (split at hc)
     all_goals cases hc
    ·split at hc
     ·exfalso;unfold x0q at hc;repeat' (split at hc)
      all_goals cases hc
     ·cases hc
 unfold y64 at hp;simp only[uT,laT,Bool.not_eq_true'] at hp;exact hp.1
theorem x1l {t:Tab} {s:Itr} (h:z9u t s) {a b:Nat} (ha:a < t.rts.length) (hb:b < t.rts.length) (hab:a≠b) {n:Int} (h1:n∈z1p (z0r t a) (z1d s a)) (h2:n∈z1p (z0r t b) (z1d s b)):False:=
 ((h.ap a b ha hb hab) n).1 ⟨List.mem_append_left _ (List.mem_map.2 ⟨n,h1,rfl⟩),List.mem_append_left _ (List.mem_map.2 ⟨n,h2,rfl⟩)⟩
theorem y2s {t:Tab} (hk:j4u t) {a:Nat} (ha:a < t.rts.length) (x:RSt):(z1p (z0r t a) x).Nodup∧∀ n∈z1p (z0r t a) x,0≤n∧n < t.nsec:=by
 have:=hk.sec _ (z3w ha);unfold z1p;split
 ·simp
 ·refine ⟨((List.nodup_append.1 this.2.1).1).sublist (List.drop_sublist _ _),fun n hn=>this.1 n (List.mem_append_left _ (List.mem_of_mem_drop hn))⟩
end Go.Proofs.YtpenlfedkacglaaGreatDoor
namespace Go.Proofs.YtpenlfedkacglaaGreatDoor
open Go.RowKit Go.Shelf Go.Lib
attribute [local go_sem] z05 z07 z01 z02
attribute [-go_sem] run_equalIn_agg
structure Fits (t:Tab) (s:Itr):Prop where
 chk:z4y t=0
 l1:s.rts.length=t.rts.length
 l2:s.lies.length=t.pts.length
 st:∀ (k:Nat) (h1:k < s.rts.length) (h2:k < t.rts.length),z0z s.rts[k] t.rts[k].secs.length=true
 ly:∀ (k:Nat) (h1:k < s.lies.length),s.lies[k]=1∨s.lies[k]=2
theorem z6u {t:Tab} {s:Itr} (h:y1h t s=true):Fits t s:=by
 have h0:z4y t=0:=Classical.byContradiction fun hc=>by rw[x3g hc] at h;cases h
 have h1:s.rts.length=t.rts.length:=Classical.byContradiction fun hc=>by rw[x3h hc] at h;cases h
 have h2:s.lies.length=t.pts.length:=Classical.byContradiction fun hc=>by rw[y8k hc] at h;cases h
 rw[y3m h0 h1 h2,uT,laT,laT] at h;refine ⟨h0,h1,h2,fun k k1 k2=>?_,fun k k1=>?_⟩
 ·exact h.1 (s.rts[k],t.rts[k]) (by
   have e:(s.rts.zip t.rts)[k]'(by rw[List.length_zip];omega)=(s.rts[k],t.rts[k]):=by simp
   rw[←e];exact uE _)
 ·have:=h.2 s.lies[k] (uE _);simpa using this
theorem x9h {x:RSt} {n:Int} (h:z0z x n=true) (hs:x.st=0∨x.st=1∨x.st=2):x.rel=0∧x.tim=0:=by
 unfold z0z at h;rw[if_pos hs] at h;simpa using h
theorem rf3 {x:RSt} {n:Int} (h:z0z x n=true) (hs:x.st=3):(0≤x.rel∧x.rel < n)∧(x.tim=0∨(x.rel=n - 1∧0 < x.tim∧x.tim < 4)):=by
 unfold z0z at h;rw[if_neg (by omega),if_pos hs] at h;simpa using h
theorem rf4 {x:RSt} {n:Int} (h:z0z x n=true) (hs:x.st=4):(0≤x.rel∧x.rel < n)∧0≤x.tim∧x.tim < 12:=by
 unfold z0z at h;rw[if_neg (by omega),if_neg (by omega),if_pos hs] at h;simpa using h
theorem j3i {x:RSt} {n:Int} (h:z0z x n=true):x.st=0∨x.st=1∨x.st=2∨x.st=3∨x.st=4:=by
 unfold z0z at h;by_cases h1:x.st=0∨x.st=1∨x.st=2
 ·omega
 ·by_cases h3:x.st=3
  ·omega
  ·by_cases h4:x.st=4
   ·omega
   ·rw[if_neg h1,if_neg h3,if_neg h4] at h;cases h
theorem z3x {t:Tab} (h:z4y t=0) {k:Nat} (hk:k < t.rts.length):0 < t.rts[k].secs.length:=by
 exact List.length_pos_iff.2 ((z8l h).sec _ (uE hk)).2.2
theorem j3a (w:World):PredAt Tryz.prog 109 #[] (Value.int .i64) (fun p:Int=>!(decide (p=1) || decide (p=2))) w:=by
 intro W x hb;show Calls Tryz.prog 109 #[.int .i64 x] W _;by_cases h1:x=1
 ·have t1:(x != 1)=false:=by rw[h1];rfl
  have HX:Hid (false = !(decide (x=1) || decide (x=2))):=hE (by rw[h1];rfl);clear h1;go_enter Tryz.func109,Tryz.ntmps109
  go_wp2_with fail;go_ret
  exact ⟨z0a HX.out,0,rfl⟩
 have t1:(x != 1)=true:=bne_iff_ne.2 h1;by_cases h2:x=2
 ·have t2:(x != 2)=false:=by rw[h2];rfl
  have HX:Hid (false = !(decide (x=1) || decide (x=2))):=hE (by rw[h2];rfl);clear h1 h2;go_enter Tryz.func109,Tryz.ntmps109
  go_wp2_with fail;go_ret
  exact ⟨z0a HX.out,0,rfl⟩
 ·have t2:(x != 2)=true:=bne_iff_ne.2 h2;have HX:Hid (true = !(decide (x=1) || decide (x=2))):=hE (by simp[h1,h2]);clear h1 h2;go_enter Tryz.func109,Tryz.ntmps109
  go_wp2_with fail;go_ret
  exact ⟨z0a HX.out,0,rfl⟩
theorem x8h (l:List Int) (A:Option Addr) (cap:Nat) (w:World) (hr:RdS cI w (Lt w) A l) (hl:l.length≤maxLen) (h:∀ (k:Nat) (h1:k < l.length),l[k]=1∨l[k]=2):Calls Tryz.prog 108 #[.slice A l.length cap,.func (.func 109) #[] #[]] w fun e w'=>e=.returned (.bool false)∧Below w.heap.size w w':=by
 by_cases h0:0 < l.length
 ·have hr2:=hr;obtain ⟨b,off,rfl,hb,-⟩:=hr2 h0;refine (Tryz.slices_ContainsFunc (Value.int .i64) (fun p:Int=>!(decide (p=1) || decide (p=2))) 109 #[] (enters_of Tryz.func109 (by kernel_rfl) rfl) b off l.length cap l w (j3a w) nL (by unfold maxLen at hl;omega) (fun j hj=>?_)).mono ?_
  ·obtain ⟨b',off',hA,-,-,y0⟩:=hr.elI hj;simp only[qE,Addr.mk.injEq,and_true] at hA;obtain ⟨rfl,rfl⟩:=hA;rw[y0,getElem!_pos l j hj]
  ·rintro e w' ⟨rfl,q,rfl⟩;refine ⟨z0a ?_,Below.drewN bQ q⟩;rw[List.take_length,Bool.eq_false_iff];intro hx;rw[List.any_eq_true] at hx;obtain ⟨x,hm,hx⟩:=hx;obtain ⟨i,hi,rfl⟩:=List.getElem_of_mem hm;rcases h i hi with h | h <;> rw[h] at hx <;> simp at hx
 ·obtain rfl:l=[]:=List.eq_nil_of_length_eq_zero (by omega);refine (Tryz.slices_ContainsFunc_empty (α:=Int) A cap _ w).mono ?_;rintro e w' ⟨rfl,rfl⟩;exact ⟨rfl,bQ⟩
theorem x4y (v:z1w) (u:z1r) (w:World) (hr:TvR w v) (hs:y1j w u) (hsm:y4q v.t) (hf:Fits v.t u.i):Calls Tryz.prog 62 #[.agg (z0t v),.agg (z1v u)] w fun e w'=>e=.returned (.bool true)∧Below w.heap.size w w':=by
 obtain ⟨W2,hW2⟩:∃ W,W=(w.alloc (.cells (z0t v) 33)).alloc (.cells (z1v u) 41):=⟨_,rfl⟩
 have hb2:Below w.heap.size w W2:=by rw[hW2];exact (bQ.alloc nL _).alloc (by simp) _
 have hx0:Blk W2 w.heap.size 33 (z0t v):=by rw[hW2];exact (Blk.new _ _ _ _ rfl).alloc _
 have hx1:Blk W2 (w.heap.size+1) 41 (z1v u):=by rw[hW2];exact Blk.new _ _ _ _ (by simp)
 have HCK:=hE (z8m v W2 (hr.now hb2) hsm);rw[hf.chk] at HCK;unfold tvA at HCK;have hn1:=hs.n1.1;have hn2:=hs.n2.1;have hm1:=hr.n1.1;unfold maxLen at hn1 hn2 hm1;have t1:((u.i.rts.length:Int) != (v.t.rts.length:Int))=false:=by rw[hf.l1];exact bne_self_eq_false _
 have t2:((u.i.lies.length:Int) != (v.t.pts.length:Int))=false:=by rw[hf.l2];exact bne_self_eq_false _
 have HF:=hE hf;have HSM:=hE hsm;clear hsm hf;go_enter Tryz.func62,Tryz.ntmps62
 go_wp2_with fail;rw[←hW2];clear hW2;refine HCK.out.mono ?_;rintro e w3 ⟨rfl,hq3⟩;have hb3:=z00 hb2 hb2.size hq3;have hx03:=hx0.now hq3;have hx13:=hx1.now hq3;have HBX:=hE fun W' (h:Below w3.heap.size w3 W')=>aIq (hx03.now h) (hx13.now h)
 have x0:=hx03.cell 0;have x1:=hx03.cell 1;have y0:=hx13.cell 0;have y1:=hx13.cell 1;have l0:=hx03.lt;have l1:=hx13.lt;simp only[gqA,gqZ,gqS] at x0 x1 y0 y1;clear hx0 hx1 hb2 HCK hq3 hx03 hx13;go_wp2_with fail
 clear t1 t2;go_loopw [33] (fun i wr=>∃ k:Nat,k≤u.i.rts.length∧i=.int .i64 k∧Below w3.heap.size w3 wr) (fun i _=>u.i.rts.length - (intOf i).toNat)
 case atStart=>exact ⟨0,nZ,rfl,bQ⟩
 case round=>
  obtain ⟨k,hkl,rfl,hb⟩:=hrel;have hbb:=z00 hb3 hb3.size hb;by_cases hlt:k < u.i.rts.length
  ·have hki:(k:Int) < (u.i.rts.length:Int):=by omega
   have hlt2:k < v.t.rts.length:=by rw[←HF.out.l1];exact hlt
   have hki2:(k:Int) < (v.t.rts.length:Int):=by omega
   obtain ⟨b,off,hA,lb,ho,z0,z1,z2⟩:=(hs.now hbb).r1.elX hlt;obtain ⟨b2,off2,rv,hA2,lb2,hre,hrv,q0,q1,q2,q3,q4,q5,q6,q7,q8,q9,q10,q11,q12,q13⟩:=(hr.now hbb).r1.elR hlt2;clear q0 q1 q2 q3 q4 q6 q7 q8 q9 q10 q11 q12 q13 hrv;have hsec:=(HSM.out _ (uE hlt2)).1;have hfit:=HF.out.st k hlt hlt2;have hpos:=z3x HF.out.chk hlt2;rw[←hre] at hsec hfit hpos;clear hre;obtain ⟨bx,hbx⟩:=HBX.out wr hb;have X0:=bx.cell 0;have X0l:=bx.lt;simp only[gqA,gqZ,gqS] at X0;rw[hA2] at X0;have hal:Below wr.heap.size wr (wr.alloc (.cells #[.int .i64 u.i.rts[k].st,.int .i64 u.i.rts[k].rel,.int .i64 u.i.rts[k].tim] 58)):=bQ.alloc nL _;have hb6:=hE (z00 hb hb.size hal);have lb':b < wr.heap.size:=lb;have lb2':b2 < wr.heap.size:=lb2;rw[hA];generalize u.i.rts[k]=x at *;generalize hn:rv.r.secs.length=n at *;have HST:=hE (j3i hfit);have H012:=hE fun h=>x9h hfit h
   have H3:=hE fun h=>rf3 hfit h
   have H4:=hE fun h=>rf4 hfit h
   obtain ⟨st,rel,tim⟩:=x;dsimp only at *;have hwr:IntKind.i64.wrap ((n:Int) - 1)=(n:Int) - 1:=IntWalk.i64_in _ (by omega);clear hfit hal bx hbx hb hbb HBX lb lb2 hA hA2 hn ho;have hst:=HST.out;rcases hst with rfl | rfl | rfl | rfl | rfl
   ·obtain ⟨rfl,rfl⟩:=H012.out (Or.inl rfl);have hn0:¬(n:Int)≤0:=by omega
    clear H012 H3 H4 HST;go_wp2_with fail
    skip;go_roundw
    case rel=>
     have hk1:k+1≤u.i.rts.length:=hlt;refine ⟨k+1,hk1,by go_num,hb6.out⟩
    case measure=>simp[intOf];omega
   ·obtain ⟨rfl,rfl⟩:=H012.out (Or.inr (Or.inl rfl));have hn0:¬(n:Int)≤0:=by omega
    clear H012 H3 H4 HST;go_wp2_with fail
    skip;go_roundw
    case rel=>
     have hk1:k+1≤u.i.rts.length:=hlt;refine ⟨k+1,hk1,by go_num,hb6.out⟩
    case measure=>simp[intOf];omega
   ·obtain ⟨rfl,rfl⟩:=H012.out (Or.inr (Or.inr rfl));have hn0:¬(n:Int)≤0:=by omega
    clear H012 H3 H4 HST;go_wp2_with fail
    skip;go_roundw
    case rel=>
     have hk1:k+1≤u.i.rts.length:=hlt;refine ⟨k+1,hk1,by go_num,hb6.out⟩
    case measure=>simp[intOf];omega
   ·obtain ⟨⟨hr0,hr1⟩,htm⟩:=H3.out rfl;have hr0':¬rel < 0:=by omega
    have hr1':¬(n:Int)≤rel:=by omega
    clear H012 H3 H4 HST;rcases htm with rfl | ⟨rfl,ht0,ht1⟩
    ·clear hr0 hr1;go_wp2_with fail
     skip;go_roundw
     case rel=>
      have hk1:k+1≤u.i.rts.length:=hlt;refine ⟨k+1,hk1,by go_num,hb6.out⟩
     case measure=>simp[intOf];omega
    ·have ht0':¬tim < 0:=by omega
     have ht1':¬4≤tim:=by omega
     have hnn:((n:Int) - 1 != (n:Int) - 1)=false:=bne_self_eq_false _;go_wp2_with fail
     skip;go_roundw
     case rel=>
      have hk1:k+1≤u.i.rts.length:=hlt;refine ⟨k+1,hk1,by go_num,hb6.out⟩
     case measure=>simp[intOf];omega
   ·obtain ⟨⟨hr0,hr1⟩,ht0,ht1⟩:=H4.out rfl;have hr0':¬rel < 0:=by omega
    have hr1':¬(n:Int)≤rel:=by omega
    have ht0':¬tim < 0:=by omega
    have ht1':¬12≤tim:=by omega
    clear H012 H3 H4 HST hr0 hr1 ht0 ht1;go_wp2_with fail
    skip;go_roundw
    case rel=>
     have hk1:k+1≤u.i.rts.length:=hlt;refine ⟨k+1,hk1,by go_num,hb6.out⟩
    case measure=>simp[intOf];omega
  ·have hki:¬(k:Int) < (u.i.rts.length:Int):=by omega
   obtain ⟨bx,hbx⟩:=HBX.out wr hb;have u1:=hbx.cell 1;have lu:=hbx.lt;simp only[gqA,gqZ,gqS] at u1;have HLI:=hE (x8h u.i.lies u.A2 u.c2 wr (hs.now hbb).r2 hs.n2.1 HF.out.ly);clear HBX bx hbx hb x0 x1 y0 y1 l0 l1;go_wp2_with fail
   refine HLI.out.mono ?_;rintro e w4 ⟨rfl,hq4⟩;have hb4:=z00 hbb hbb.size hq4;go_wp2_with fail
   go_ret;exact ⟨rfl,hb4⟩
end Go.Proofs.YtpenlfedkacglaaGreatDoor
