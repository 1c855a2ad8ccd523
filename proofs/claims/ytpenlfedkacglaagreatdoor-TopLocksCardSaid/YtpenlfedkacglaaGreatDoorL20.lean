import Derived.Test.YtpenlfedkacglaaGreatDoorL19
set_option maxRecDepth 100000
set_option maxHeartbeats 40000000
set_option linter.all false
namespace Go.Proofs.YtpenlfedkacglaaGreatDoor
open Go.RowKit
attribute [local go_sem] z05 z07 z01 z02
attribute [-go_sem] run_equalIn_agg
attribute [-go_sem] loadCellsFrom
def fr3 (t:Tab) (i:Inp) (k:Nat):Bool:=(z3l (z0r t k) ⟨1,0,0⟩).any fun x=>z2t i.clo x.1
def j7v (t:Tab) (s:Itr) (k:Nat) (o:Nat):Bool:=!decide (o=k) && y6w (z0r t k) (z0r t o) (z3l (z0r t k) ⟨1,0,0⟩) (z3l (z0r t o) (z1d s o))
def j7w (t:Tab) (s:Itr) (k:Nat) (o:Nat):Bool:=!decide (o=k) && !y1f (z1t (z0r t k)) (z4s t (z0r t o) (z1d s o))
def j4o (t:Tab) (s:Itr) (i:Inp) (x:Stg):Bool:=!z4u t s x && z2t i.occ (x67 t (plF t x.el))
theorem x3o {t:Tab} {s:Itr} {i:Inp} {r:Int} (h:r < 0∨(t.rts.length:Int)≤r):y75 t s i r=1:=by unfold y75;rw[if_pos (Or.inr h)]
theorem j5w {t : Tab} {s : Itr} {i : Inp} {k : Nat} (hs : z7z t s = true) (hk : k < t.rts.length) : y75 t s i (k : Int) = if (z1d s k).st ≠ 0 then 11 else if fr3 t i k = true then 13 else if (List.range t.rts.length).any (j7v t s k) = true then 12 else if (List.range t.rts.length).any (j7w t s k) = true then 10 else if (z1t (z0r t k)).any (j4o t s i) = true then 14 else 0 := by
  unfold y75
  rw [if_neg (by rw [hs]; intro h; rcases h with h | h | h
                 · cases h
                 · omega
                 · omega)]
  rfl
theorem y3c {α:Type} {f:α→Bool} {l:List α} {j:Nat} (h:(l.take j).any f=false) (hj:j < l.length) (hx:f l[j]=false):(l.take (j+1)).any f=false:=by
 rw[tqS hj,List.any_append,h,List.any_cons,hx];rfl
theorem x2h {α:Type} {f:α→Bool} {l:List α} {j:Nat} (hj:j < l.length) (hx:f l[j]=true):l.any f=true:=List.any_eq_true.2 ⟨l[j],uE hj,hx⟩
theorem x2g {α:Type} {f:α→Bool} {l:List α} {j:Nat} (h:(l.take j).any f=false) (hj:¬j < l.length):l.any f=false:=by rwa [tlL (by omega)] at h
def NoT {α:Type} (f:α→Bool) (l:List α) (j:Nat):Prop:=(l.take j).any f=false
def NoR (f:Nat→Bool) (j:Nat):Prop:=∀ o < j,f o=false
theorem z9k {f:Nat→Bool} {j:Nat} (h:NoR f j) (hx:f j=false):NoR f (j+1):=fun o ho=>by
 by_cases e:o=j
 ·rw[e];exact hx
 ·exact h o (by omega)
theorem x4f {f:Nat→Bool} {n:Nat} (h:NoR f n):(List.range n).any f=false:=by
 rw[List.any_eq_false];intro o ho;rw[h o (List.mem_range.1 ho)];decide
theorem x4g {f:Nat→Bool} {n j:Nat} (hj:j < n) (hx:f j=true):(List.range n).any f=true:=List.any_eq_true.2 ⟨j,List.mem_range.2 hj,hx⟩
theorem j2z {w:World} {S:Nat→Prop} {b off:Nat} {l:List (Int × Int)} (h:RdS cPr w S (some ⟨b,off,none⟩) l) {i:Nat} (hi:i < l.length) {s:Int × Int} (hs:l[i]=s):Sem.run Tryz.prog (loadCellsFrom ⟨b,off+i*2,none⟩ 0 2 #[]) w=.ok #[.int .i64 s.1,.int .i64 s.2] w:=by
 obtain ⟨b',off',hA,-,-,y0,y1⟩:=h.j7u hi;simp only[qE,Addr.mk.injEq,and_true] at hA;obtain ⟨rfl,rfl⟩:=hA;rw[hs] at y0 y1
 exact z2e (b:=b) (o:=off+i*2) (n:=2) (ys:=[.int .i64 s.1,.int .i64 s.2]) rfl (fun j u hj=>match j,hj with
  | 0,hj=>(sJ hj)▸y0
  | 1,hj=>(sJ hj)▸y1)
structure FrJ (v:z1w) (u:z1r) (i:z3n) (w:World) (gq:Nat) (rv:z2v) (wr:World):Prop where
 b0:Blk wr w.heap.size 33 (z0t v)
 b1:Blk wr (w.heap.size+1) 41 (z1v u)
 b2:Blk wr (w.heap.size+1+1) 49 (z3t i)
 bq:Blk wr gq 56 (z0e rv)
 rq:RvR wr (Lt wr) rv
 bel:Below w.heap.size w wr
theorem FrJ.now {v:z1w} {u:z1r} {i:z3n} {w wr w':World} {gq:Nat} {rv:z2v} (h:FrJ v u i w gq rv wr) (hb:Below wr.heap.size wr w'):FrJ v u i w gq rv w':=⟨h.b0.now hb,h.b1.now hb,h.b2.now hb,h.bq.now hb,h.rq.now hb,z00 h.bel h.bel.size hb⟩
theorem x3x (v:z1w) (u:z1r) (i:z3n) (r:Int) (w:World) (hr:TvR w v) (hs:y1j w u) (hi:y1d w i) (hS:y4p v.t) (hsd:z7z v.t u.i=true) (hF:Fits v.t u.i):Calls Tryz.prog 69 #[.agg (z0t v),.agg (z1v u),.agg (z3t i),.int .i64 r] w fun e w'=>e=.returned (.int .i64 (y75 v.t u.i i.i r))∧Below w.heap.size w w':=by
 obtain ⟨W2,hW2⟩:∃ W,W=((w.alloc (.cells (z0t v) 33)).alloc (.cells (z1v u) 41)).alloc (.cells (z3t i) 49):=⟨_,rfl⟩
 have hb2:Below w.heap.size w W2:=by rw[hW2];exact ((bQ.alloc nL _).alloc (by simp) _).alloc (by simp;omega) _
 have hx0:Blk W2 w.heap.size 33 (z0t v):=by rw[hW2];exact ((Blk.new _ _ _ _ rfl).alloc _).alloc _
 have hx1:Blk W2 (w.heap.size+1) 41 (z1v u):=by rw[hW2];exact (Blk.new _ _ _ _ (by simp)).alloc _
 have hx2:Blk W2 (w.heap.size+1+1) 49 (z3t i):=by rw[hW2];exact Blk.new _ _ _ _ (by simp)
 have HSD:=hE (y6d v u W2 (hr.now hb2) (hs.now hb2) hS);rw[hsd] at HSD;have HSN:=hE hsd;have ld0:=z04 hx0 5 rfl;have ld1:=z04 hx1 2 rfl;have hm1:=hr.n1.1;have hn1:=hs.n1.1;unfold maxLen at hm1 hn1;clear hsd;go_enter Tryz.func69,Tryz.ntmps69
 go_upto_region 1 with (fail)
 rw[←hW2];clear hW2;have x00:=hx0.cell 0;have lx0:=hx0.lt;go_wp2_with fail
 refine HSD.out.mono ?_;rintro en w3 ⟨rfl,hq3⟩;have hb3:=z00 hb2 hb2.size hq3;have hx0:=hx0.now hq3;have hx1:=hx1.now hq3;have hx2:=hx2.now hq3;clear HSD ld0 ld1 x00 lx0 hb2 hq3;have x00:=hx0.cell 0;have lx0:=hx0.lt;simp only[gqA,gqZ,gqS] at x00;by_cases hr0:r < 0
 ·have t1:decide (r < 0)=true:=by simpa using hr0
  have HX:=hE (x3o (t:=v.t) (s:=u.i) (i:=i.i) (Or.inl hr0));clear hx0 hx1 hx2;go_wp2_with fail
  go_ret;exact ⟨z0i HX.out.symm,hb3⟩
 by_cases hrl:(v.t.rts.length:Int)≤r
 ·have t1:decide (r < 0)=false:=by simpa using hr0
  have HX:=hE (x3o (t:=v.t) (s:=u.i) (i:=i.i) (Or.inr hrl));clear hx0 hx1 hx2;go_wp2_with fail
  go_ret;exact ⟨z0i HX.out.symm,hb3⟩
 obtain ⟨k,rfl⟩:∃ k:Nat,r=(k:Int):=⟨r.toNat,by omega⟩
 have hlt:k < v.t.rts.length:=by omega
 have hltu:k < u.i.rts.length:=by rw[hF.l1];exact hlt
 have t1:decide ((k:Int) < 0)=false:=by simp
 have hki:(k:Int) < (v.t.rts.length:Int):=by omega
 have hku:(k:Int) < (u.i.rts.length:Int):=by omega
 have HFE:=hE (j5w (i:=i.i) HSN.out hlt);obtain ⟨bS,offS,hAS,lbS,hoS,z0,-,-⟩:=(hs.now hb3).r1.elX hltu;have x10:=hx1.cell 0;have lx1:=hx1.lt;simp only[gqA,gqZ,gqS] at x10;rw[hAS] at x10;have lbS':bS < w3.heap.size:=lbS;have hst:=z5g hltu;obtain ⟨sk,hsk⟩:∃ s,(u.i.rts[k]).st=s:=⟨_,rfl⟩
 rw[hsk] at z0;rw[hst,hsk] at HFE;clear hAS lbS hoS hst hsk;by_cases hs0:sk=0;case neg=>
  have t2:(sk != 0)=true:=by simp[hs0]
  have HX:=hE (HFE.out.trans (if_pos hs0));clear hs0 hx0 hx1 hx2;go_wp2_with fail
  go_ret;exact ⟨z0i HX.out.symm,hb3⟩
 case pos=>
  subst hs0;have HF2:=hE (HFE.out.trans (if_neg (by decide)));clear HFE;obtain ⟨b,off,rv,hA,lb,hre,hrv,lds⟩:=z6j (hr.now hb3).r1 hlt;have x00':=x00;rw[hA] at x00;have lb':b < w3.heap.size:=lb;obtain ⟨W4,hW4⟩:∃ W,W=w3.alloc (.cells (z0e rv) 56):=⟨_,rfl⟩
  have h4:Below w3.heap.size w3 W4:=by rw[hW4];exact bQ.alloc nL _
  have hJ:FrJ v u i w w3.heap.size rv W4:=⟨hx0.now h4,hx1.now h4,hx2.now h4,by rw[hW4];exact Blk.new _ _ _ _ rfl,hrv.now h4,z00 hb3 hb3.size h4⟩
  have hsm:=hS _ (uE hlt);have hrt:=z2u hlt;have hps:=z3x hF.chk hlt;rw[←hre] at hsm hrt hps;rw[hrt] at HF2;have HRT:=hE hrt;have HJ:=hE hJ;have hrv4:=hJ.rq;clear hx0 hx1 hx2 hre hrt hJ x00' h4 hrv;go_upto_region 6 with (fail)
  rw[←hW4];clear hW4 x00 lx0 x10 lx1 z0 lbS' lds lb';have HLK:=hE (z8g rv ⟨1,0,0⟩ W4 hrv4 (fun _=>⟨0,rfl,hps⟩) (by have:=hsm.n3;omega) (by have:=hsm.n6;omega));have ld1:=z04 HJ.out.bq 14 rfl;go_wp2_with fail
  refine HLK.out.mono ?_;rintro en w5 ⟨Al,cl,rfl,hol,hq5⟩;clear ld1 HLK;have hJ5:=HJ.out.now hq5;have HRT2:=hE (show z0r v.t k=rv.r from HRT.out);obtain ⟨lk,hlk⟩:∃ l,z3l rv.r ⟨1,0,0⟩=l:=⟨_,rfl⟩
  have hll:lk.length≤80000:=by have:=y7g rv.r ⟨1,0,0⟩;rw[hlk] at this;have:=hsm.n3;have:=hsm.n6;omega
  have HLKE:=hE hlk;rw[hlk] at hol ⊢;have HJ5:=hE hJ5;clear hlk hJ5 HJ;clear hq5;go_wp2_with fail
  go_loopw [53] (fun a wr=>∃ j:Nat,a=.int .i64 j∧j≤lk.length∧NoT (fun x:Int × Int=>z2t i.i.clo x.1) lk j∧FrJ v u i w w3.heap.size rv wr∧z09 cPr wr W4.heap.size 170 (.slice Al lk.length cl) lk 0) (fun n _=>lk.length - (intOf n).toNat)
  case atStart=>exact ⟨0,rfl,nZ,rfl,HJ5.out,hol⟩
  case round=>
   obtain ⟨j,rfl,hj,hno,hJ,ho⟩:=hrel;clear HJ5 hol;by_cases hl1:j < lk.length
   ·have t2:decide ((j:Int) < (lk.length:Int))=true:=by simpa using hl1
    have hji:(j:Int) < (lk.length:Int):=by omega
    obtain ⟨bl,ol,hA,lbl,-,y0,y1⟩:=ho.rdn.2.j7u hl1;obtain ⟨x,hx⟩:∃ x,lk[j]=x:=⟨_,rfl⟩
    have ho0:=ho;rw[hA] at ho;have lds:=j2z ho.rdn.2 hl1 hx;have h4:Below wr.heap.size wr (wr.alloc (.cells #[.int .i64 x.1,.int .i64 x.2] 170)):=bQ.alloc nL _;have hJ4:=hJ.now h4;have HPL:=hE (ho0.now h4);have x20:=hJ4.b2.cell 2;have lx2:=hJ4.b2.lt;have hbx:Blk (wr.alloc (.cells #[.int .i64 x.1,.int .i64 x.2] 170)) wr.heap.size 170 #[.int .i64 x.1,.int .i64 x.2]:=Blk.new _ _ _ _ rfl;have xb0:=hbx.cell 0;have lxb:=hbx.lt;simp only[gqA,gqZ,gqS] at x20 xb0;have HR:=hE (z5w i.i.clo x.1 i.A3 i.c3 _ (hi.now hJ4.bel).r3 hi.n3.1);have lbl':bl < wr.heap.size:=lbl.2;have HX4:=hE hJ4;clear hJ hJ4 hbx y0 y1 lbl h4 ho ho0;rw[hA];go_wp2_with fail
    refine HR.out.mono ?_;rintro en w6 ⟨rfl,hq6⟩;by_cases hrx:z2t i.i.clo x.1=true
    ·have HX:=hE (HF2.out.trans (if_pos (show fr3 v.t i.i k=true by unfold fr3;rw[HRT2.out,HLKE.out];exact x2h hl1 (by rw[hx];exact hrx))));rw[hrx];clear HR HPL lds xb0 lxb x20 lx2;go_wp2_with fail
     go_ret;exact ⟨z0i HX.out.symm,(HX4.out.now hq6).bel⟩
    ·have hrx':=Bool.eq_false_iff.2 hrx;rw[hrx'];clear HR lds xb0 lxb x20 lx2;go_wp2_with fail
     go_roundw
     case rel=>exact ⟨j+1,by go_num,hl1,y3c hno hl1 (by rw[hx];exact hrx'),HX4.out.now hq6,hA▸HPL.out.now hq6⟩
     case measure=>simp[intOf];omega
   ·obtain rfl:j=lk.length:=by omega
    have hji:¬(lk.length:Int) < (lk.length:Int):=by omega
    have HF3:=hE (HF2.out.trans (if_neg (by unfold fr3;rw[HRT2.out,HLKE.out,x2g hno (by omega)];decide)));clear HF2 hno;have x00:=hJ.b0.cell 0;have lx0:=hJ.b0.lt;simp only[gqA,gqZ,gqS] at x00;have HJ6:=hE hJ;have HO6:=hE ho;clear hJ ho;go_wp2_with fail
    clear x00 lx0;go_loopw [66] (fun a wz=>∃ o:Nat,a=.int .i64 o∧o≤v.t.rts.length∧NoR (j7v v.t u.i k) o∧FrJ v u i w w3.heap.size rv wz∧z09 cPr wz W4.heap.size 170 (.slice Al lk.length cl) lk 0) (fun n _=>v.t.rts.length - (intOf n).toNat)
    case atStart=>exact ⟨0,rfl,nZ,fun _ h=>absurd h (by omega),HJ6.out,HO6.out⟩
    case round=>
     obtain ⟨o,rfl,ho,hno,hJ,hol⟩:=hrel;clear HJ6 HO6;by_cases hl2:o < v.t.rts.length
     ·have t3:decide ((o:Int) < (v.t.rts.length:Int))=true:=by simpa using hl2
      have hoi:(o:Int) < (v.t.rts.length:Int):=by omega
      have hl2u:o < u.i.rts.length:=by rw[hF.l1];exact hl2
      have hou:(o:Int) < (u.i.rts.length:Int):=by omega
      obtain ⟨b2,off2,ro,hA2,lb2,hreo,hrvo,lds2⟩:=z6j (hr.now hJ.bel).r1 hl2;have hro0:=z2u hl2;have hsmo:=hS _ (uE hl2);have hpso:=z3x hF.chk hl2;have hfit:=hF.st o hl2u hl2;rw[←hreo] at hro0 hsmo hpso hfit;have hst2:=z5g hl2u;obtain ⟨x,hx⟩:∃ x,u.i.rts[o]=x:=⟨_,rfl⟩
      rw[hx] at hfit hst2;have hrel2:=y2u hfit hpso;obtain ⟨b3,off3,hA3,lb3,-,z0,z1,z2⟩:=(hs.now hJ.bel).r1.elX hl2u;rw[hx] at z0 z1 z2;have lb2':b2 < wr.heap.size:=lb2;have lb3':b3 < wr.heap.size:=lb3;obtain ⟨W6,hW6⟩:∃ W,W=wr.alloc (.cells (z0e ro) 56):=⟨_,rfl⟩
      have h6:Below wr.heap.size wr W6:=by rw[hW6];exact bQ.alloc nL _
      have hJ6:=hJ.now h6;have hol6:=hol.now h6;have hrvo6:=hrvo.now h6;have hbo:Blk W6 wr.heap.size 56 (z0e ro):=by rw[hW6];exact Blk.new _ _ _ _ rfl
      have lb6:b3 < W6.heap.size:=nT lb3' h6.size;have y0:=(h6.cell (p:=⟨b3,off3+o*3,none⟩) lb3').trans z0;have y1:=(h6.cell (p:=⟨b3,off3+o*3+1,none⟩) lb3').trans z1;have y2:=(h6.cell (p:=⟨b3,off3+o*3+2,none⟩) lb3').trans z2;have hlo:(z3l ro.r x).length≤maxLen:=by have:=y7g ro.r x;have:=hsmo.n3;have:=hsmo.n6;unfold maxLen;omega
      have hlk8:lk.length≤maxLen:=by unfold maxLen;omega
      have HLO:=hE fun W' (h:Below W6.heap.size W6 W')=>z8g ro x W' (hrvo6.now h) hrel2 (by have:=hsmo.n3;omega) (by have:=hsmo.n6;omega)
      obtain ⟨lo,hlo2⟩:∃ l,z3l ro.r x=l:=⟨_,rfl⟩
      have HLOE:=hE hlo2;rw[hlo2] at HLO hlo;clear hlo2;obtain ⟨cc,hcc⟩:∃ c,y6w rv.r ro.r lk lo=c:=⟨_,rfl⟩
      have HCL:Hid (∀ W' (h:Below W6.heap.size W6 W') (A2:Option Addr) (c2:Nat) (ho2:RdS cPr W' (Lt W') A2 lo),Calls Tryz.prog 58 #[.agg (z0e rv),.agg (z0e ro),.slice Al lk.length cl,.slice A2 lo.length c2] W' fun e w'=>e=.returned (.bool cc)∧Below W'.heap.size W' w'):=hE fun W' h A2 c2 ho2=>by
       refine (y4u rv ro lk lo Al A2 cl c2 W' (hJ6.rq.now h) (hrvo6.now h) ((hol6.now h).rdn.2.more fun b h=>h.2) ho2 hlk8 hlo).mono ?_;rintro e w' ⟨rfl,hq⟩;exact ⟨z0a hcc,hq⟩
      have HFO:=hE (show j7v v.t u.i k o=(!decide (o=k) && cc) by unfold j7v;rw[HRT2.out,HLKE.out,hro0,hst2,HLOE.out,hcc])
      have HSS:Hid (∀ W,Below W6.heap.size W6 W→(fun w'=>Sem.run Tryz.prog (loadCellsFrom ⟨w3.heap.size,0,none⟩ 0 14 #[]) w' = .ok (z0e rv) w'∧Sem.run Tryz.prog (loadCellsFrom ⟨wr.heap.size,0,none⟩ 0 14 #[]) w' = .ok (z0e ro) w'∧w'.cell? ⟨w.heap.size+1,0,none⟩=some (.slice (some ⟨b3,off3,none⟩) u.i.rts.length u.c1)∧Sem.run Tryz.prog (loadCellsFrom ⟨b3,off3+o*3,none⟩ 0 3 #[]) w' = .ok #[.int .i64 x.st,.int .i64 x.rel,.int .i64 x.tim] w') W):=hE fun W h=>⟨z04 (hJ6.bq.now h) 14 rfl,z04 (hbo.now h) 14 rfl,((hJ6.b1.now h).cell 0).trans (by unfold z1v;rw[hA3];rfl),z2e (b:=b3) (o:=off3+o*3) (n:=3) (ys:=[.int .i64 x.st,.int .i64 x.rel,.int .i64 x.tim]) rfl (fun j u hj=>match j,hj with
       | 0,hj=>(sJ hj)▸((h.cell (p:=⟨b3,off3+o*3,none⟩) lb6).trans y0)
       | 1,hj=>(sJ hj)▸((h.cell (p:=⟨b3,off3+o*3+1,none⟩) lb6).trans y1)
       | 2,hj=>(sJ hj)▸((h.cell (p:=⟨b3,off3+o*3+2,none⟩) lb6).trans y2))⟩
      rw[hA] at hA2;simp only[qE,Addr.mk.injEq,and_true] at hA2;obtain ⟨rfl,rfl⟩:=hA2;have HX6:=hE (aIq hJ6 hol6);clear hA3;clear hJ hJ6 hol hol6 hro0 hsmo hpso hfit hst2 hx hrel2 z0 z1 z2 y0 y1 y2 lb3 lb6 hrvo hrvo6 hbo hreo hlo hlk8 hcc lb2 h6 hl2u;by_cases hok:o=k
      ·subst hok;have t4:((o:Int) != (o:Int))=false:=by simp
       go_wp2_with fail;rw[←hW6];clear hW6 lds2 HSS HCL HLO;refine rgH 16 (S:=(fun _=>True)) (trivial) fun hHeld=>?_
       refine tkM 16 [0,1,2,3,4,5,6,7,8,9,10,11,12,13,14,15] ?_;refine wdn ?_;have hJ8:=HX6.out.1.now bQ.drew;have hol8:=HX6.out.2.now bQ.drew;clear hHeld;go_wp2_with fail
       go_roundw
       case rel=>exact ⟨o+1,by go_num,hl2,z9k hno (by rw[HFO.out];simp),hJ8,hol8⟩
       case measure=>simp[intOf];omega
      ·have t4:((o:Int) != (k:Int))=true:=by simp;omega
       go_wp2_with fail;rw[←hW6];clear hW6 lds2;refine rgS 16 HSS fun hHeld=>?_
       refine tkM 13 [0,1,2,3,4,5,6,7,8,9,10,11,12] ?_;refine rd1 13 rfl fun K hK=>?_
       go_simp;go_at_call 57
       refine (HLO.out _ bQ.drew).mono ?_;rintro e w7 ⟨A7,c7,rfl,ho7,hq7⟩;have hq7':Below W6.heap.size W6 w7:=bQ.drew.trans hq7;go_wp2_with fail
       refine hK.out _ _ (HSS.out _ hq7') (fun hHeld=>?_);clear hK K;try simp only[Act.put,lsa,lsz,lss]
       refine rd1 14 rfl fun K hK=>?_
       go_simp;go_at_call 58
       refine (HCL.out _ hq7' A7 c7 (ho7.rdn.2.more fun b h=>h.2)).mono ?_;rintro e w8 ⟨rfl,hq8⟩;have hq8':Below W6.heap.size W6 w8:=z00 hq7' hq7'.size hq8;go_wp2_with fail
       refine hK.out _ _ (HSS.out _ hq8') (fun hHeld=>?_);clear hK K;try simp only[Act.put,lsa,lsz,lss]
       refine tkM 1 [15] ?_;refine wdn ?_;have hJ8:=HX6.out.1.now hq8';have hol8:=HX6.out.2.now hq8';clear HSS HCL HLO hHeld hq8 hq8' hq7 hq7' ho7
       cases cc with
       | true=>
        have HX:=hE (HF3.out.trans (if_pos (x4g hl2 (by rw[HFO.out];simp[hok]))));go_wp2_with fail
        go_ret
        exact ⟨z0i HX.out.symm,hJ8.bel⟩
       | false=>
        go_wp2_with fail;go_roundw
        case rel=>exact ⟨o+1,by go_num,hl2,z9k hno (by rw[HFO.out];simp),hJ8,hol8⟩
        case measure=>simp[intOf];omega
     ·obtain rfl:o=v.t.rts.length:=by omega
      have t3:¬(v.t.rts.length:Int) < (v.t.rts.length:Int):=by omega
      have HF4:=hE (HF3.out.trans (if_neg (by rw[x4f hno];decide)));clear HF3 hno hol;have HJ9:=hE hJ;clear hJ;go_upto_region 19 with (fail)
      have HTS:=hE (z3y rv _ HJ9.out.rq (by have:=hsm.n2;omega) (by have:=hsm.n5;omega) (by have:=hsm.n7;omega));have ld9:=z04 HJ9.out.bq 14 rfl;go_wp2_with fail
      refine HTS.out.mono ?_;rintro en w9 ⟨As,cs,rfl,hos0,hq9⟩;clear ld9 HTS;obtain ⟨B9,hos⟩:∃ B,z09 z2x w9 B 78 (.slice As (z1t rv.r).length cs) (z1t rv.r) 0:=⟨_,hos0⟩
      clear hos0;obtain ⟨sl,hsl⟩:∃ l,z1t rv.r=l:=⟨_,rfl⟩
      have hsll:sl.length≤90000:=by rw[←hsl];have:=y0x rv.r;have:=hsm.n2;have:=hsm.n5;have:=hsm.n7;omega
      have HSL:=hE hsl;rw[hsl] at hos ⊢;clear hsl;have hJ9:=HJ9.out.now hq9;have x00:=hJ9.b0.cell 0;have lx0:=hJ9.b0.lt;simp only[gqA,gqZ,gqS] at x00;have HJA:=hE hJ9;clear hJ9 hq9 HJ9;go_wp2_with fail
      clear x00 lx0;go_loopw [93] (fun a wz=>∃ o:Nat,a=.int .i64 o∧o≤v.t.rts.length∧NoR (j7w v.t u.i k) o∧FrJ v u i w w3.heap.size rv wz∧z09 z2x wz B9 78 (.slice As sl.length cs) sl 0) (fun n _=>v.t.rts.length - (intOf n).toNat)
      case atStart=>exact ⟨0,rfl,nZ,fun _ h=>absurd h (by omega),HJA.out,hos⟩
      case round=>
       obtain ⟨o,rfl,ho,hno,hJ,hol⟩:=hrel;clear HJA hos;by_cases hl2:o < v.t.rts.length
       ·have t3:decide ((o:Int) < (v.t.rts.length:Int))=true:=by simpa using hl2
        have hoi:(o:Int) < (v.t.rts.length:Int):=by omega
        have hl2u:o < u.i.rts.length:=by rw[hF.l1];exact hl2
        have hou:(o:Int) < (u.i.rts.length:Int):=by omega
        obtain ⟨b2,off2,ro,hA2,lb2,hreo,hrvo,lds2⟩:=z6j (hr.now hJ.bel).r1 hl2;have hro0:=z2u hl2;have hsmo:=hS _ (uE hl2);have hpso:=z3x hF.chk hl2;have hfit:=hF.st o hl2u hl2;rw[←hreo] at hro0 hsmo hpso hfit;have hst2:=z5g hl2u;obtain ⟨x,hx⟩:∃ x,u.i.rts[o]=x:=⟨_,rfl⟩
        rw[hx] at hfit hst2;have hrel2:=y2u hfit hpso;obtain ⟨b3,off3,hA3,lb3,-,z0,z1,z2⟩:=(hs.now hJ.bel).r1.elX hl2u;rw[hx] at z0 z1 z2;have lb2':b2 < wr.heap.size:=lb2;have lb3':b3 < wr.heap.size:=lb3;obtain ⟨W6,hW6⟩:∃ W,W=wr.alloc (.cells (z0e ro) 56):=⟨_,rfl⟩
        have h6:Below wr.heap.size wr W6:=by rw[hW6];exact bQ.alloc nL _
        have hJ6:=hJ.now h6;have hol6:=hol.now h6;have hrvo6:=hrvo.now h6;have hbo:Blk W6 wr.heap.size 56 (z0e ro):=by rw[hW6];exact Blk.new _ _ _ _ rfl
        have lb6:b3 < W6.heap.size:=nT lb3' h6.size;have y0:=(h6.cell (p:=⟨b3,off3+o*3,none⟩) lb3').trans z0;have y1:=(h6.cell (p:=⟨b3,off3+o*3+1,none⟩) lb3').trans z1;have y2:=(h6.cell (p:=⟨b3,off3+o*3+2,none⟩) lb3').trans z2;have hlo:(z4s v.t ro.r x).length≤maxLen:=by have:=x2m (t:=v.t) (r:=ro.r) (s:=x);have:=hsmo.n2;have:=hsmo.n5;have:=hsmo.n7;unfold maxLen;omega
        have hlk8:sl.length≤maxLen:=by unfold maxLen;omega
        have hbe6:=hJ6.bel;have hmo:ro.r∈v.t.rts:=by rw[hreo];exact uE hl2
        have HLO:=hE fun W' (h:Below W6.heap.size W6 W')=>z9v v ro x W' (hr.now (z00 hbe6 hbe6.size h)) (hrvo6.now h) hF.chk hmo hsmo hrel2
        obtain ⟨lo,hlo2⟩:∃ l,z4s v.t ro.r x=l:=⟨_,rfl⟩
        have HLOE:=hE hlo2;rw[hlo2] at HLO hlo;clear hlo2;obtain ⟨cc,hcc⟩:∃ c,y1f sl lo=c:=⟨_,rfl⟩
        have HCL:Hid (∀ W' (h:Below W6.heap.size W6 W') (A2:Option Addr) (c2:Nat) (ho2:RdS z2x W' (Lt W') A2 lo),Calls Tryz.prog 56 #[.slice As sl.length cs,.slice A2 lo.length c2] W' fun e w'=>e=.returned (.bool cc)∧Below W'.heap.size W' w'):=hE fun W' h A2 c2 ho2=>by
         refine (y4r sl lo As A2 cs c2 W' ((hol6.now h).rdn.2.more fun b h=>h.2) ho2 hlk8 hlo).mono ?_;rintro e w' ⟨rfl,hq⟩;exact ⟨z0a hcc,hq⟩
        have HFO:=hE (show j7w v.t u.i k o=(!decide (o=k) && !cc) by unfold j7w;rw[HRT2.out,HSL.out,hro0,hst2,HLOE.out,hcc])
        have HSS:Hid (∀ W,Below W6.heap.size W6 W→(fun w'=>Sem.run Tryz.prog (loadCellsFrom ⟨w.heap.size,0,none⟩ 0 5 #[]) w' = .ok (z0t v) w'∧Sem.run Tryz.prog (loadCellsFrom ⟨wr.heap.size,0,none⟩ 0 14 #[]) w' = .ok (z0e ro) w'∧w'.cell? ⟨w.heap.size+1,0,none⟩=some (.slice (some ⟨b3,off3,none⟩) u.i.rts.length u.c1)∧Sem.run Tryz.prog (loadCellsFrom ⟨b3,off3+o*3,none⟩ 0 3 #[]) w' = .ok #[.int .i64 x.st,.int .i64 x.rel,.int .i64 x.tim] w') W):=hE fun W h=>⟨z04 (hJ6.b0.now h) 5 rfl,z04 (hbo.now h) 14 rfl,((hJ6.b1.now h).cell 0).trans (by unfold z1v;rw[hA3];rfl),z2e (b:=b3) (o:=off3+o*3) (n:=3) (ys:=[.int .i64 x.st,.int .i64 x.rel,.int .i64 x.tim]) rfl (fun j u hj=>match j,hj with
         | 0,hj=>(sJ hj)▸((h.cell (p:=⟨b3,off3+o*3,none⟩) lb6).trans y0)
         | 1,hj=>(sJ hj)▸((h.cell (p:=⟨b3,off3+o*3+1,none⟩) lb6).trans y1)
         | 2,hj=>(sJ hj)▸((h.cell (p:=⟨b3,off3+o*3+2,none⟩) lb6).trans y2))⟩
        rw[hA] at hA2;simp only[qE,Addr.mk.injEq,and_true] at hA2;obtain ⟨rfl,rfl⟩:=hA2;have HX6:=hE (aIq hJ6 hol6);clear hA3;clear hmo hbe6 hJ hJ6 hol hol6 hro0 hsmo hpso hfit hst2 hx hrel2 z0 z1 z2 y0 y1 y2 lb3 lb6 hrvo hrvo6 hbo hreo hlo hlk8 hcc lb2 h6 hl2u;by_cases hok:o=k
        ·subst hok;have t4:((o:Int) != (o:Int))=false:=by simp
         go_wp2_with fail;rw[←hW6];clear hW6 lds2 HSS HCL HLO;refine rgH 16 (S:=(fun _=>True)) (trivial) fun hHeld=>?_
         refine tkM 16 [0,1,2,3,4,5,6,7,8,9,10,11,12,13,14,15] ?_;refine wdn ?_;have hJ8:=HX6.out.1.now bQ.drew;have hol8:=HX6.out.2.now bQ.drew;clear hHeld;go_wp2_with fail
         go_roundw
         case rel=>exact ⟨o+1,by go_num,hl2,z9k hno (by rw[HFO.out];simp),hJ8,hol8⟩
         case measure=>simp[intOf];omega
        ·have t4:((o:Int) != (k:Int))=true:=by simp;omega
         go_wp2_with fail;rw[←hW6];clear hW6 lds2;refine rgS 16 HSS fun hHeld=>?_
         refine tkM 12 [0,1,2,3,4,5,6,7,8,9,10,11] ?_;refine rd1 12 rfl fun K hK=>?_
         go_simp;go_at_call 59
         refine (HLO.out _ bQ.drew).mono ?_;rintro e w7 ⟨A7,c7,rfl,ho7,hq7⟩;have hq7':Below W6.heap.size W6 w7:=bQ.drew.trans hq7;go_wp2_with fail
         refine hK.out _ _ (HSS.out _ hq7') (fun hHeld=>?_);clear hK K;try simp only[Act.put,lsa,lsz,lss]
         refine rd1 13 rfl fun K hK=>?_
         go_simp;go_at_call 56
         refine (HCL.out _ hq7' A7 c7 (ho7.rdn.2.more fun b h=>h.2)).mono ?_;rintro e w8 ⟨rfl,hq8⟩;have hq8':Below W6.heap.size W6 w8:=z00 hq7' hq7'.size hq8;go_wp2_with fail
         refine hK.out _ _ (HSS.out _ hq8') (fun hHeld=>?_);clear hK K;try simp only[Act.put,lsa,lsz,lss]
         refine tkM 2 [14,15] ?_;refine wdn ?_;have hJ8:=HX6.out.1.now hq8';have hol8:=HX6.out.2.now hq8';clear HSS HCL HLO hHeld hq8 hq8' hq7 hq7' ho7
         cases cc with
         | false=>
          have HX:=hE (HF4.out.trans (if_pos (x4g hl2 (by rw[HFO.out];simp[hok]))));go_wp2_with fail
          go_ret
          exact ⟨z0i HX.out.symm,hJ8.bel⟩
         | true=>
          go_wp2_with fail;go_roundw
          case rel=>exact ⟨o+1,by go_num,hl2,z9k hno (by rw[HFO.out];simp),hJ8,hol8⟩
          case measure=>simp[intOf];omega
       ·obtain rfl:o=v.t.rts.length:=by omega
        have t3:¬(v.t.rts.length:Int) < (v.t.rts.length:Int):=by omega
        have HF5:=hE (HF4.out.trans (if_neg (by rw[x4f hno];decide)));have hmem:rv.r∈v.t.rts:=by rw[←HRT2.out,z2u hlt];exact uE hlt
        have HPT:Hid (∀ x∈sl,x.el∈v.t.pts):=hE fun x hx=>((z8l hF.chk).stg _ hmem x (z1o.1 (by rw[HSL.out];exact hx))).1
        have HJB:=hE hJ;have HOB:=hE hol;clear HF4 hno hmem hJ hol;go_wp2_with fail
        go_loopw [117] (fun a wz=>∃ j:Nat,a=.int .i64 j∧j≤sl.length∧NoT (j4o v.t u.i i.i) sl j∧FrJ v u i w w3.heap.size rv wz∧z09 z2x wz B9 78 (.slice As sl.length cs) sl 0) (fun n _=>sl.length - (intOf n).toNat)
        case atStart=>exact ⟨0,rfl,nZ,rfl,HJB.out,HOB.out⟩
        case round=>
         obtain ⟨j,rfl,hj,hno,hJ,hol⟩:=hrel;clear HJB HOB;by_cases hl4:j < sl.length
         ·have hji:(j:Int) < (sl.length:Int):=by omega
          obtain ⟨bg,offg,hAg,lbg,-,-,y0,y1⟩:∃ b off,As=some ⟨b,off,none⟩∧b < wr.heap.size∧True∧True∧wr.cell? ⟨b,off+j*2,none⟩=some (.int .i64 sl[j].el)∧wr.cell? ⟨b,off+j*2+1,none⟩=some (.int .i64 sl[j].pos):=by
           obtain ⟨b,off,h1,h2,-,h4,h5⟩:=hol.rdn.2.elG hl4;exact ⟨b,off,h1,h2.2,trivial,trivial,h4,h5⟩
          have hym:=HPT.out _ (uE hl4);obtain ⟨m,hm,hm1,hm2⟩:=y4c hF.chk hym;have hml:m < u.i.lies.length:=by rw[hF.l2];exact hm1
          have hmi:(m:Int) < (u.i.lies.length:Int):=by omega
          have hmh:(m:Int) < (v.t.homes.length:Int):=by omega
          have hla:=x3z (t:=v.t) (s:=u.i) hm hml;have hho:=j0b hm2;obtain ⟨bL,offL,hAL,lbL,-,zl⟩:=(hs.now hJ.bel).r2.elI hml;obtain ⟨bH,offH,hAH,lbH,-,zh⟩:=(hr.now hJ.bel).r3.elI hm2;have lbL':bL < wr.heap.size:=lbL;have lbH':bH < wr.heap.size:=lbH;obtain ⟨y,hy⟩:∃ y,sl[j]=y:=⟨_,rfl⟩
          rw[hy] at y0 y1 hym hm hla;generalize u.i.lies[m]=lm at *;generalize v.t.homes[m]=hv at *;obtain ⟨W8,hW8⟩:∃ W,W=wr.alloc (.cells #[.int .i64 y.el,.int .i64 y.pos] 78):=⟨_,rfl⟩
          have h8:Below wr.heap.size wr W8:=by rw[hW8];exact bQ.alloc nL _
          have hxy:Blk W8 wr.heap.size 78 #[.int .i64 y.el,.int .i64 y.pos]:=by rw[hW8];exact Blk.new _ _ _ _ rfl
          have hJ8:=hJ.now h8;have hol8:=hol.now h8;have HIX:=hE (z4f v y.el W8 (hr.now hJ8.bel) hym);rw[hm] at HIX;have HFX:=hE (show j4o v.t u.i i.i y=(!decide (lm=y.pos) && z2t i.i.occ hv) by unfold j4o;rw[hla,hm,hho]);have HRS:=hE fun W' (h:Below W8.heap.size W8 W')=>z5w i.i.occ hv i.A1 i.c1 W' (hi.now (z00 hJ8.bel hJ8.bel.size h)).r1 hi.n1.1
          have lL8:bL < W8.heap.size:=nT lbL' h8.size;have lH8:bH < W8.heap.size:=nT lbH' h8.size;have zl8:=(h8.cell (p:=⟨bL,offL+m,none⟩) lbL').trans zl;have zh8:=(h8.cell (p:=⟨bH,offH+m,none⟩) lbH').trans zh;have HS8:Hid (∀ W,Below W8.heap.size W8 W→(fun w'=>w'.cell? ⟨w.heap.size+1,1,none⟩=some (.slice (some ⟨bL,offL,none⟩) u.i.lies.length u.c2)∧w'.cell? ⟨wr.heap.size,0,none⟩=some (.int .i64 y.el)∧w'.cell? ⟨wr.heap.size,1,none⟩=some (.int .i64 y.pos)∧w'.cell? ⟨bL,offL+m,none⟩=some (.int .i64 lm)∧w'.cell? ⟨w.heap.size+1+1,0,none⟩=some (.slice i.A1 i.i.occ.length i.c1)∧w'.cell? ⟨w.heap.size,2,none⟩=some (.slice (some ⟨bH,offH,none⟩) v.t.homes.length v.c3)∧w'.cell? ⟨bH,offH+m,none⟩=some (.int .i64 hv)) W):=hE fun W h=>⟨((hJ8.b1.now h).cell 1).trans (by unfold z1v;rw[hAL];rfl),(hxy.now h).cell 0,(hxy.now h).cell 1,(h.cell (p:=⟨bL,offL+m,none⟩) lL8).trans zl8,(hJ8.b2.now h).cell 0,((hJ8.b0.now h).cell 2).trans (by unfold z0t;rw[hAH];rfl),(h.cell (p:=⟨bH,offH+m,none⟩) lH8).trans zh8⟩
          have lds:Sem.run Tryz.prog (loadCellsFrom ⟨bg,offg+j*2,none⟩ 0 2 #[]) wr=.ok #[.int .i64 y.el,.int .i64 y.pos] wr:=z2e (b:=bg) (o:=offg+j*2) (n:=2) (ys:=[.int .i64 y.el,.int .i64 y.pos]) rfl (fun j u hj=>match j,hj with
           | 0,hj=>(sJ hj)▸y0
           | 1,hj=>(sJ hj)▸y1)
          have ld0:=z04 hJ8.b0 5 rfl;have xy0:=hxy.cell 0;have lxy:=hxy.lt;simp only[gqA,gqZ,gqS] at xy0;have HX8:=hE (aIq hJ8 hol8);have HAG:=hE hAg;clear hJ hJ8 hol hol8 hla hho hAL hAH zl zh zl8 zh8 lL8 lH8 lbL' lbH' lbL lbH y0 y1 hxy h8 hym hm hm1 hm2 hml;rw[hAg];go_upto_region 29 with (fail)
          rw[←hW8];clear hW8 lds;go_wp2_with fail
          refine HIX.out.mono ?_;rintro en w9 ⟨rfl,hq9⟩;clear HIX ld0 xy0;have HSS:Hid (∀ W,Below w9.heap.size w9 W→(fun w'=>w'.cell? ⟨w.heap.size+1,1,none⟩=some (.slice (some ⟨bL,offL,none⟩) u.i.lies.length u.c2)∧w'.cell? ⟨wr.heap.size,0,none⟩=some (.int .i64 y.el)∧w'.cell? ⟨wr.heap.size,1,none⟩=some (.int .i64 y.pos)∧w'.cell? ⟨bL,offL+m,none⟩=some (.int .i64 lm)∧w'.cell? ⟨w.heap.size+1+1,0,none⟩=some (.slice i.A1 i.i.occ.length i.c1)∧w'.cell? ⟨w.heap.size,2,none⟩=some (.slice (some ⟨bH,offH,none⟩) v.t.homes.length v.c3)∧w'.cell? ⟨bH,offH+m,none⟩=some (.int .i64 hv)) W):=hE fun W h=>HS8.out W (z00 hq9 hq9.size h)
          have HRS:=hE fun W' (h:Below w9.heap.size w9 W')=>HRS.out W' (z00 hq9 hq9.size h)
          have hJ9:=HX8.out.1.now hq9;have hol9:=HX8.out.2.now hq9;by_cases hlm:lm=y.pos
          ·have t1:(lm != y.pos)=false:=by rw[hlm];exact bne_self_eq_false _
           have HX:=hE (show j4o v.t u.i i.i y=false by rw[HFX.out,dTt hlm];rfl);clear hlm HS8;go_wp2_with fail
           refine rgS 18 HSS fun hHeld=>?_
           refine tkM 18 [0,1,2,3,4,5,6,7,8,9,10,11,12,13,14,15,16,17] ?_;refine wdn ?_;have hJ9:=hJ9.now bQ.drew;have hol9:=hol9.now bQ.drew;clear hHeld HSS HRS;go_wp2_with fail
           go_roundw
           case rel=>exact ⟨j+1,by go_num,hl4,y3c hno hl4 (by rw[hy];exact HX.out),hJ9,HAG.out▸hol9⟩
           case measure=>simp[intOf];omega
          ·have t1:(lm != y.pos)=true:=bne_iff_ne.2 hlm;have HFY:=hE (show j4o v.t u.i i.i y=z2t i.i.occ hv by rw[HFX.out,dFf hlm];rfl);generalize z2t i.i.occ hv=rz at *;clear hlm HS8 HFX;go_wp2_with fail
           refine rgS 18 HSS fun hHeld=>?_
           refine tkM 16 [0,1,2,3,4,5,6,7,8,9,10,11,12,13,14,15] ?_;refine rd1 16 rfl fun K hK=>?_
           go_simp;go_at_call 111
           refine (HRS.out _ bQ.drew).mono ?_;rintro e wq ⟨rfl,hqq⟩;have hqq':Below w9.heap.size w9 wq:=bQ.drew.trans hqq;go_wp2_with fail
           refine hK.out _ _ (HSS.out _ hqq') (fun hHeld=>?_);clear hK K;try simp only[Act.put,lsa,lsz,lss]
           refine tkM 1 [17] ?_;refine wdn ?_;have hJ9:=hJ9.now hqq';have hol9:=hol9.now hqq';clear hHeld HSS HRS hqq hqq'
           cases rz with
           | true=>
            have HX:=hE (HF5.out.trans (if_pos (by rw[HSL.out];exact x2h hl4 (by rw[hy];exact HFY.out))));go_wp2_with fail
            go_ret
            exact ⟨z0i HX.out.symm,hJ9.bel⟩
           | false=>
            go_wp2_with fail;go_roundw
            case rel=>exact ⟨j+1,by go_num,hl4,y3c hno hl4 (by rw[hy];exact HFY.out),hJ9,HAG.out▸hol9⟩
            case measure=>simp[intOf];omega
         ·have t4:¬(j:Int) < (sl.length:Int):=by omega
          have HX:=hE (HF5.out.trans (if_neg (by rw[HSL.out,x2g hno hl4];decide)));go_wp2_with fail
          go_ret;exact ⟨z0i HX.out.symm,hJ.bel⟩
theorem z09.j6d {α:Type} {c:Cod α} {w w':World} {base n cap:Nat} {e:TypeId} {A:Option Addr} {l:List α} (h:z09 c w base e (.slice A n cap) l 0) (hk:∀ g,A=some ⟨g,0,none⟩→base≤g→g < w.heap.size→w'.heap[g]? = w.heap[g]?):z09 c w' base e (.slice A n cap) l 0:=by
 obtain ⟨xs,h1,h2,h3⟩:=h;refine ⟨xs,⟨h1.1,?_⟩,(h2.keep fun p hp=>absurd hp.1 (Nat.not_lt_zero _)).more fun b hb=>absurd hb.1 (Nat.not_lt_zero _),nZ⟩;rcases h1.2 with h | ⟨g',cap',cur,hv,hb,hg,h4,h5,h6⟩
 ·exact Or.inl h
 ·have hv':=hv;simp only[Value.slice.injEq] at hv';exact Or.inr ⟨g',cap',cur,hv,hb,(hk g' hv'.1 hb (z0j hg)).trans hg,h4,h5,h6⟩
theorem y5y {α:Type} {c:Cod α} {w:World} {base n cap:Nat} {e:TypeId} {A:Option Addr} {l:List α} (h:z09 c w base e (.slice A n cap) l 0) (hl:0 < l.length):∃ g,A=some ⟨g,0,none⟩∧base≤g∧g < w.heap.size:=by
 obtain ⟨xs,h1,h2,h3⟩:=h;rcases h1.2 with ⟨_,h0⟩ | ⟨g',cap',cur,hv,hb,hg,h4,h5,h6⟩
 ·omega
 ·simp only[Value.slice.injEq] at hv;exact ⟨g',hv.1,hb,z0j hg⟩
structure CyB (v:z1w) (i:z3n) (W0:World) (N gc:Nat) (u:z1r) (rf:List Int) (Ar:Option Addr) (cr:Nat) (w:World):Prop where
 blk:Blk w gc 72 #[.slice u.A1 u.i.rts.length u.c1,.slice u.A2 u.i.lies.length u.c2,.slice v.A1 v.t.rts.length v.c1,.slice v.A2 v.t.pts.length v.c2,.slice v.A3 v.t.homes.length v.c3,.int .i64 v.t.nsec,.int .i64 v.t.nsig,.slice i.A1 i.i.occ.length i.c1,.slice i.A2 i.i.det.length i.c2,.slice i.A3 i.i.clo.length i.c3,.slice i.A4 i.i.cla.length i.c4,.slice i.A5 i.i.pas.length i.c5,.slice i.A6 i.i.calls.length i.c6,.slice i.A7 i.i.cans.length i.c7,.slice Ar rf.length cr]
 o1:z09 cRS w W0.heap.size 58 (.slice u.A1 u.i.rts.length u.c1) u.i.rts 0
 o2:z09 cI w W0.heap.size 3 (.slice u.A2 u.i.lies.length u.c2) u.i.lies 0
 lo:∀ g,u.A2=some ⟨g,0,none⟩→g < N
 o3:z09 cI w N 3 (.slice Ar rf.length cr) rf 0
 gcl:W0.heap.size≤gc
 nw:W0.heap.size≤N
 hN:N≤w.heap.size
 bel:Below W0.heap.size W0 w
section
variable {v:z1w} {i:z3n} {W0 w w':World} {N gc cr:Nat} {u:z1r} {rf:List Int} {Ar:Option Addr}
theorem CyB.now (h:CyB v i W0 N gc u rf Ar cr w) (hb:Below w.heap.size w w'):CyB v i W0 N gc u rf Ar cr w':=⟨h.blk.now hb,h.o1.now hb,h.o2.now hb,h.lo,h.o3.now hb,h.gcl,h.nw,nR h.hN hb.size,z00 h.bel h.bel.size hb⟩
theorem CyB.itr (h:CyB v i W0 N gc u rf Ar cr w):y1j w u:=⟨h.o1.rdn.2.more fun b h=>h.2,h.o2.rdn.2.more fun b h=>h.2,h.o1.rdn.1,h.o2.rdn.1⟩
theorem CyB.j8y (h:CyB v i W0 N gc u rf Ar cr w) {k:Nat} (hk:k < u.i.rts.length) (x:RSt) (hx:z0p x.st∧z0p x.rel∧z0p x.tim):∃ g,u.A1=some ⟨g,0,none⟩∧g < w.heap.size∧(∀ j,w.frozen? ⟨g,j,none⟩=false)∧(∀ j,j < 3→∃ y,w.cell? ⟨g,k*3+j,none⟩=some y)∧
  CyB v i W0 N gc { u with i:={ u.i with rts:=u.i.rts.set k x } } rf Ar cr (w.setCells g (k*3) [.int .i64 x.st,.int .i64 x.rel,.int .i64 x.tim])∧Frm W0.heap.size 58 w (w.setCells g (k*3) [.int .i64 x.st,.int .i64 x.rel,.int .i64 x.tim]):=by
 obtain ⟨g,hA,hg,hlt⟩:=y5y h.o1 (by omega);have h1:=h.o1;rw[hA] at h1;obtain ⟨b,off,hA',-,-,y0,y1,y2⟩:=h1.rdn.2.elX hk;simp only[qE,Addr.mk.injEq,and_true] at hA';obtain ⟨rfl,rfl⟩:=hA';rw[Nat.zero_add] at y0 y1 y2;obtain ⟨p1,p2⟩:=x4w y3d (ys:=[.int .i64 x.st,.int .i64 x.rel,.int .i64 x.tim]) (y:=x) h1 hk (fun _ _=>⟨rfl,hx⟩);have hsz:cRS.size=3:=rfl;rw[hsz] at p1 p2;refine ⟨g,hA,hlt,fun j=>z9m h1 j,fun j hj=>?_,⟨?_,?_,h.o2.frm p2 (by decide) nZ,h.lo,h.o3.frm p2 (by decide) nZ,h.gcl,h.nw,nR h.hN p2.size,p2.keeps nL h.bel.size h.bel⟩,p2⟩
 ·rcases (show j=0∨j=1∨j=2 by omega) with rfl | rfl | rfl
  ·exact ⟨_,y0⟩
  ·exact ⟨_,y1⟩
  ·exact ⟨_,y2⟩
 ·have:=p2.blk h.blk (by decide);simpa using this
 ·show z09 cRS _ _ _ (.slice u.A1 (u.i.rts.set k x).length u.c1) (u.i.rts.set k x) 0;rw[List.length_set,hA];exact p1
theorem CyB.j9t (h:CyB v i W0 N gc u rf Ar cr w) {k:Nat} (hk:k < u.i.lies.length) (p:Int) (hp:z0p p):∃ g,u.A2=some ⟨g,0,none⟩∧g < w.heap.size∧w.frozen? ⟨g,k,none⟩=false∧(∃ y,w.cell? ⟨g,k,none⟩=some y)∧
  CyB v i W0 N gc { u with i:={ u.i with lies:=u.i.lies.set k p } } rf Ar cr (w.setCell ⟨g,k,none⟩ (.int .i64 p))∧Frm W0.heap.size 3 w (w.setCell ⟨g,k,none⟩ (.int .i64 p)):=by
 obtain ⟨g,hA,hg,hlt⟩:=y5y h.o2 (by omega);have h1:=h.o2;rw[hA] at h1;obtain ⟨b,off,hA',-,-,y0⟩:=h1.rdn.2.elI hk;simp only[qE,Addr.mk.injEq,and_true] at hA';obtain ⟨rfl,rfl⟩:=hA';rw[Nat.zero_add] at y0;obtain ⟨p1,p2⟩:=y48 z9y rfl (u:=.int .i64 p) (y:=p) h1 hk (fun _ _=>⟨rfl,hp⟩);have hgN:=h.lo g hA;refine ⟨g,hA,hlt,z9m h1 k,⟨_,y0⟩,⟨?_,h.o1.frm p2 (by decide) nZ,?_,h.lo,h.o3.j6d (fun g' _ hg' _=>Below.heap_setCell _ _ _ _ (show g'≠g by omega)),h.gcl,h.nw,nR h.hN p2.size,p2.keeps nL h.bel.size h.bel⟩,p2⟩
 ·have:=p2.blk h.blk (by decide);simpa using this
 ·show z09 cI _ _ _ (.slice u.A2 (u.i.lies.set k p).length u.c2) (u.i.lies.set k p) 0;rw[List.length_set,hA];exact p1
theorem CyB.app (h:CyB v i W0 N gc u rf Ar cr w) {rf':List Int} {A':Option Addr} {c':Nat} (ho:z09 cI w' N 3 (.slice A' rf'.length c') rf' 0) (hf:Frm N 3 w w'):CyB v i W0 N gc u rf' A' c' (w'.setCell ⟨gc,14,none⟩ (.slice A' rf'.length c')):=by
 have hb:=hf.blk h.blk (by decide);have h1:=h.o1.frm hf (by decide) nZ;have h2:=h.o2.j6d (w':=w') (fun g hg _ hlt=>hf.low g (h.lo g hg) hlt);refine ⟨?_,h1.set gc 14 _ _ _ hb (by decide) nZ,h2.set gc 14 _ _ _ hb (by decide) nZ,h.lo,ho.set gc 14 _ _ _ hb (by decide) nZ,h.gcl,h.nw,nR (nR h.hN hf.size) (by simp),(hf.keeps h.nw h.bel.size h.bel).setCell (p:=⟨gc,14,none⟩) h.gcl _⟩;have:=hb.set 14 (.slice A' rf'.length c');simpa using this
end
def x2q (t:Tab) (s:Itr) (k m:Nat):Itr:=⟨s.rts.set k ⟨1,0,0⟩,((z1t (z0r t k)).take m).foldl (x1x t) s.lies⟩
theorem x6n {t:Tab} {s:Itr} {i:Inp} {k m:Nat} (h:y75 t s i (k:Int)=0) (hm:¬m < (z1t (z0r t k)).length):x2q t s k m=y3e t i s (k:Int):=by
 rw[y8d h];unfold x2q;rw[tlL (by omega)];rfl
theorem x2r {t:Tab} {s:Itr} {k m:Nat} (hm:m < (z1t (z0r t k)).length):({ x2q t s k m with lies:=(x2q t s k m).lies.set (plF t (z1t (z0r t k))[m].el).toNat (z1t (z0r t k))[m].pos }:Itr)=x2q t s k (m+1):=by
 unfold x2q;rw[tqS hm,List.foldl_append];rfl
theorem x6o {t:Tab} {s:Itr} {k m:Nat}:(x2q t s k m).lies.length=s.lies.length∧(x2q t s k m).rts.length=s.rts.length:=⟨x3t _ _,by unfold x2q;simp⟩
theorem j5h {t:Tab} {s:Itr} {i:Inp} {r:Int} (h:¬y75 t s i r=0):y3e t i s r=s:=by unfold y3e;rw[if_neg h]
theorem j3z {t:Tab} {s:Itr} {k:Nat} (h:z9u t s) (hk:k < t.rts.length) {x:Stg} (hx:x∈z1t (z0r t k)):x.el∈t.pts:=by
 rw[z1o] at hx;exact ((z8l h.fit.ck).stg _ (z3w hk) x hx).1
def CaP (v:z1w) (i:z3n) (W0:World) (N gc:Nat) (u:z1r) (rf:List Int) (r:Int) (e:Ending) (w':World):Prop:=
 e=.returned (.tuple #[])∧∃ (u':z1r) (rf':List Int) (A':Option Addr) (c':Nat),u'.i=y3e v.t i.i u.i r∧rf'.length≤rf.length+1∧CyB v i W0 N gc u' rf' A' c' w'
theorem x6p (v:z1w) (u:z1r) (i:z3n) (r:Int) (W0 w:World) (N gc cr:Nat) (rf:List Int) (Ar:Option Addr) (hr:TvR W0 v) (hi:y1d W0 i) (hS:y4p v.t) (hsd:z7z v.t u.i=true) (h64:z0p r) (hrf:rf.length≤90000) (h:CyB v i W0 N gc u rf Ar cr w):Calls Tryz.prog 27 #[.pointer (some ⟨gc,0,none⟩),.int .i64 r] w (CaP v i W0 N gc u rf r):=by
 have hsn:=z1j.1 hsd;have hF:=z6u (z3s.2 hsn.fit);obtain ⟨i0,hi0,hz0,hz1,hz2⟩:=info_parts z3f;have HLF:=hE fun W' (hb:Below w.heap.size w W')=>x3x v u i r W' (hr.now (z00 h.bel h.bel.size hb)) (h.itr.now hb) (hi.now (z00 h.bel h.bel.size hb)) hS hsd hF
 have HSS:Hid (∀ W,Below w.heap.size w W→(fun w'=>Sem.run Tryz.prog (loadCellsFrom ⟨gc,2,none⟩ 0 5 #[]) w' = .ok (z0t v) w'∧Sem.run Tryz.prog (loadCellsFrom ⟨gc,0,none⟩ 0 2 #[]) w' = .ok (z1v u) w'∧Sem.run Tryz.prog (loadCellsFrom ⟨gc,7,none⟩ 0 7 #[]) w' = .ok (z3t i) w') W):=hE fun W hb=>⟨z2h (h.blk.now hb) 2 5 [.slice v.A1 v.t.rts.length v.c1,.slice v.A2 v.t.pts.length v.c2,.slice v.A3 v.t.homes.length v.c3,.int .i64 v.t.nsec,.int .i64 v.t.nsig] rfl rfl,z2h (h.blk.now hb) 0 2 [.slice u.A1 u.i.rts.length u.c1,.slice u.A2 u.i.lies.length u.c2] rfl rfl,z2h (h.blk.now hb) 7 7 [.slice i.A1 i.i.occ.length i.c1,.slice i.A2 i.i.det.length i.c2,.slice i.A3 i.i.clo.length i.c3,.slice i.A4 i.i.cla.length i.c4,.slice i.A5 i.i.pas.length i.c5,.slice i.A6 i.i.calls.length i.c6,.slice i.A7 i.i.cans.length i.c7] rfl rfl⟩
 obtain ⟨f,hf⟩:∃ f,y75 v.t u.i i.i r=f:=⟨_,rfl⟩
 rw[hf] at HLF;have HFE:=hE hf;have HB:=hE h;have HSN:=hE hsn;clear hf h hsd hsn;go_enter Tryz.func27,Tryz.ntmps27
 go_wp2_with fail;refine rgS 15 HSS fun hHeld=>?_
 refine tkM 13 [0,1,2,3,4,5,6,7,8,9,10,11,12] ?_;refine rd1 13 rfl fun K hK=>?_
 go_simp;go_at_call 69
 refine (HLF.out _ bQ.drew).mono ?_;rintro e w2 ⟨rfl,hq2⟩;have hq:Below w.heap.size w w2:=z00 (Below.refl w.heap.size w).drew nL hq2;go_wp2_with fail
 refine hK.out _ _ (HSS.out _ hq) (fun hHeld=>?_);clear hK K;try simp only[Act.put,lsa,lsz,lss]
 refine tkM 1 [14] ?_;refine wdn ?_;clear hHeld;have HB2:=hE (HB.out.now hq);clear HSS HLF hq hq2 HB;by_cases hf0:f=0;case neg=>
  have t0:(f != 0)=true:=bne_iff_ne.2 hf0;have HC:=hE (j5h (t:=v.t) (s:=u.i) (i:=i.i) (r:=r) (by rw[HFE.out];exact hf0));have h2:=HB2.out;have hb2:=h2.blk;have ho3:=h2.o3;have hN2:=h2.hN;have c14:=hb2.cell 14;have lc:=hb2.lt;simp only[gqA,gqZ,gqS] at c14;clear hf0 hb2 h2;go_wp2_with (at_builtin;go_loud (refine z0h (c:=cI) _ rfl _ _ 31 rfl N 3 i0 _ 8 Tryz.underlying31 hi0 hz0 hz1 hz2 rfl (by decide) _ rf 0 rfl ho3 [.int .i64 r] r ⟨rfl,h64⟩ (by intro u hu;simp at hu;subst hu;rfl) _ rfl (by omega) (by omega) (by omega) ?_);intro v' w7 hown7 hf7 hs7;obtain ⟨A7,c7,hv7⟩:=hown7.form;rw[qL,List.length_singleton] at hv7;subst hv7;have hg7:=hf7.blk HB2.out.blk (by decide);have d14:=hg7.cell 14;have dl:=hg7.lt;have df:=hg7.free;simp only[gqA,gqZ,gqS] at d14)
  refine bodyPost_ret (results_none rfl _ _ _) rfl ?_;refine ⟨rfl,u,rf++[r],A7,c7,HC.out.symm,by simp,?_⟩;have hown8:z09 cI w7 N 3 (.slice A7 (rf++[r]).length c7) (rf++[r]) 0:=by rw[qL,List.length_singleton];exact hown7
  have:=HB2.out.app hown8 hf7
  rwa [qL,List.length_singleton] at this
 case pos=>
  subst hf0;have t0:((0:Int) != 0)=false:=rfl;obtain ⟨hr0,F⟩:=x3n HFE.out;obtain ⟨k,rfl⟩:∃ k:Nat,r=(k:Int):=⟨r.toNat,by omega⟩
  rw[Int.toNat_natCast] at F;have hlt:=F.lt;have hltu:k < u.i.rts.length:=by rw[hF.l1];exact hlt
  have hki:(k:Int) < (v.t.rts.length:Int):=by omega
  have hku:(k:Int) < (u.i.rts.length:Int):=by omega
  obtain ⟨gR,hA1,lR,fR,cR,hB3,hf3⟩:=HB2.out.j8y hltu ⟨1,0,0⟩ ⟨j1r,y5d,y5d⟩;obtain ⟨y0,hy0⟩:=cR 0 (by omega);obtain ⟨y1,hy1⟩:=cR 1 (by omega);obtain ⟨y2,hy2⟩:=cR 2 (by omega);rw[Nat.add_zero] at hy0;have f0:=fR (k*3);have f1:=fR (k*3+1);have f2:=fR (k*3+2);obtain ⟨W3,hW3⟩:∃ W,W=((w2.setCell ⟨gR,k*3,none⟩ (.int .i64 1)).setCell ⟨gR,k*3+1,none⟩ (.int .i64 0)).setCell ⟨gR,k*3+2,none⟩ (.int .i64 0):=⟨_,rfl⟩
  have hB3':CyB v i W0 N gc { u with i:={ u.i with rts:=u.i.rts.set k ⟨1,0,0⟩ } } rf Ar cr W3:=by rw[hW3];exact hB3
  have hb2:=HB2.out.blk;have c0:=(hb2.cell 0).trans (by rw[hA1];rfl:_=some (Value.slice (some ⟨gR,0,none⟩) u.i.rts.length u.c1));have lc:=hb2.lt;clear hB3 hf3 fR cR hb2 hr0 hA1;go_upto_region 3 with (fail)
  rw[←hW3];clear hW3 c0 lc f0 f1 f2 hy0 hy1 hy2 lR;have HB3:=hE hB3';clear hB3';obtain ⟨b,off,rv,hA,lb,hre,hrv,lds⟩:=z6j (hr.now HB3.out.bel).r1 hlt;have lb':b < W3.heap.size:=lb;have hsm:=hS _ (uE hlt);have hrt:=z2u hlt;rw[←hre] at hsm hrt;have HRT:=hE hrt;have c2:=(HB3.out.blk.cell 2).trans (by rw[hA];rfl:_=some (Value.slice (some ⟨b,off,none⟩) v.t.rts.length v.c1));have lc:=HB3.out.blk.lt;have HTS:=hE (z3y rv W3 hrv hsm.n2 hsm.n5 hsm.n7);have HPT:=hE fun x hx=>j3z (s:=u.i) (x:=x) HSN.out hlt hx
  rw[hrt] at HPT;have HEN:=hE fun m hm=>x6n (i:=i.i) (m:=m) HFE.out hm
  have HST:=hE fun m hm=>x2r (t:=v.t) (s:=u.i) (k:=k) (m:=m) hm
  rw[hrt] at HEN HST;obtain ⟨L,hL⟩:∃ L,z1t rv.r=L:=⟨_,rfl⟩
  rw[hL] at HTS HPT HEN HST;have HLE:=hE hL;clear hL hA hre hrv hsm hrt lb F;go_wp2_with fail
  refine HTS.out.mono ?_;rintro e w4 ⟨As,cs,rfl,hos,hq4⟩;have HB4:=hE (HB3.out.now hq4);have hq44:=hos.rdn.1.1;unfold maxLen at hq44;clear HTS HB3 lds c2 lc lb' hq4;have HB0:Hid (CyB v i W0 N gc { u with i:=x2q v.t u.i k 0 } rf Ar cr w4):=HB4;clear HB4;go_wp2_with fail
  go_loopw [49] (fun a wr=>∃ (m:Nat) (um:z1r),a=.int .i64 m∧m≤L.length∧um.i=x2q v.t u.i k m∧CyB v i W0 N gc um rf Ar cr wr∧z09 z2x wr W3.heap.size 78 (.slice As L.length cs) L 0) (fun n _=>L.length - (intOf n).toNat)
  case atStart=>exact ⟨0,_,rfl,nZ,rfl,HB0.out,hos⟩
  case round=>
   obtain ⟨m,um,rfl,hml,hum,hB,hol⟩:=hrel;clear HB0 hos;by_cases hlm:m < L.length
   ·have hmi:(m:Int) < (L.length:Int):=by omega
    obtain ⟨bl,ol,hAs,lbl,h64x,y0,y1⟩:=hol.rdn.2.elG hlm;obtain ⟨x,hx⟩:∃ x,L[m]=x:=⟨_,rfl⟩
    have hxm:x∈L:=by rw[←hx];exact uE hlm
    rw[hx] at h64x y0 y1;have HSTm:=hE (HST.out m hlm);have HXE:=hE hx;have hpt:=HPT.out x hxm;obtain ⟨hp0,hp1,-⟩:=y4b hpt;obtain ⟨p,hp⟩:∃ p:Nat,plF v.t x.el=p:=⟨(plF v.t x.el).toNat,by omega⟩
    rw[hp,Int.toNat_natCast] at hp1;have hpl:p < um.i.lies.length:=by rw[hum,x6o.1,hF.l2];exact hp1
    have hpi:(p:Int) < (um.i.lies.length:Int):=by omega
    have HPE:=hE hp;obtain ⟨W5,hW5⟩:∃ W,W=wr.alloc (.cells #[.int .i64 x.el,.int .i64 x.pos] 78):=⟨_,rfl⟩
    have h5:Below wr.heap.size wr W5:=by rw[hW5];exact bQ.alloc nL _
    have hbx:Blk W5 wr.heap.size 78 #[.int .i64 x.el,.int .i64 x.pos]:=by rw[hW5];exact Blk.new _ _ _ _ rfl
    have hB5:=hB.now h5;have ho5:=hol.now h5;obtain ⟨gL,hA2,-⟩:=hB5.j9t hpl x.pos h64x.2;have lbl':bl < wr.heap.size:=lbl.2
    have lds:=z2y (w:=wr) (b:=bl) (o:=ol+m*2) (n:=2) (ys:=[.int .i64 x.el,.int .i64 x.pos]) rfl (fun j u hj=>match j,hj with
     | 0,hj=>(sJ hj)▸y0
     | 1,hj=>(sJ hj)▸y1)
    simp only[List.toArray] at lds;have HSS:Hid (∀ W,Blk W gc 72 #[.slice um.A1 um.i.rts.length um.c1,.slice um.A2 um.i.lies.length um.c2,.slice v.A1 v.t.rts.length v.c1,.slice v.A2 v.t.pts.length v.c2,.slice v.A3 v.t.homes.length v.c3,.int .i64 v.t.nsec,.int .i64 v.t.nsig,.slice i.A1 i.i.occ.length i.c1,.slice i.A2 i.i.det.length i.c2,.slice i.A3 i.i.clo.length i.c3,.slice i.A4 i.i.cla.length i.c4,.slice i.A5 i.i.pas.length i.c5,.slice i.A6 i.i.calls.length i.c6,.slice i.A7 i.i.cans.length i.c7,.slice Ar rf.length cr]→Blk W wr.heap.size 78 #[.int .i64 x.el,.int .i64 x.pos]→(fun w'=>w'.cell? ⟨gc,1,none⟩=some (.slice (some ⟨gL,0,none⟩) um.i.lies.length um.c2)∧Sem.run Tryz.prog (loadCellsFrom ⟨gc,2,none⟩ 0 5 #[]) w' = .ok (z0t v) w'∧w'.cell? ⟨wr.heap.size,0,none⟩=some (.int .i64 x.el)∧w'.cell? ⟨wr.heap.size,1,none⟩=some (.int .i64 x.pos)) W):=hE fun W q1 q2=>⟨(q1.cell 1).trans (by rw[hA2];rfl),z2h q1 2 5 [.slice v.A1 v.t.rts.length v.c1,.slice v.A2 v.t.pts.length v.c2,.slice v.A3 v.t.homes.length v.c3,.int .i64 v.t.nsec,.int .i64 v.t.nsig] rfl rfl,q2.cell 0,q2.cell 1⟩
    have HTI:=hE fun W' (hb:Below W5.heap.size W5 W')=>z4f v x.el W' (hr.now (z00 hB5.bel hB5.bel.size hb)) hpt
    rw[hp] at HTI;have HB5:=hE hB5;have HO5:=hE ho5;have HBX:=hE hbx;have HA2:=hE hA2;have HAS:=hE hAs;have HUM:=hE hum;have HPL:=hE hpl;rw[hAs];clear hol hB hB5 ho5 hbx hA2 hx hxm hp hp0 hp1 hpt y0 y1 hum lbl hAs hpl;go_upto_region 6 with (fail)
    rw[←hW5];clear hW5 lds lbl';refine rgH 16 (S:=(fun w'=>w'.cell? ⟨gc,1,none⟩=some (.slice (some ⟨gL,0,none⟩) um.i.lies.length um.c2)∧Sem.run Tryz.prog (loadCellsFrom ⟨gc,2,none⟩ 0 5 #[]) w' = .ok (z0t v) w'∧w'.cell? ⟨wr.heap.size,0,none⟩=some (.int .i64 x.el)∧w'.cell? ⟨wr.heap.size,1,none⟩=some (.int .i64 x.pos))) (HSS.out _ HB5.out.blk HBX.out) fun hHeld=>?_
    refine tkM 13 [0,1,2,3,4,5,6,7,8,9,10,12,13] ?_;refine rd1 11 rfl fun K hK=>?_
    go_simp;go_at_call 60
    refine (HTI.out _ bQ.drew).mono ?_;rintro e w6 ⟨rfl,hq6⟩;have hq:Below W5.heap.size W5 w6:=z00 (Below.refl W5.heap.size W5).drew nL hq6;go_wp2_with fail
    refine hK.out _ _ (HSS.out _ (HB5.out.blk.now hq) (HBX.out.now hq)) (fun hHeld=>?_);clear hK K;try simp only[Act.put,lsa,lsz,lss]
    have hB6:=HB5.out.now hq;obtain ⟨gL',hA2',lL,fL,⟨yL,hyL⟩,hB7,hf7⟩:=hB6.j9t HPL.out x.pos h64x.2;have hgg:gL' = gL:=by rw[HA2.out] at hA2';simp only[qE,Addr.mk.injEq,and_true] at hA2';exact hA2'.symm
    subst hgg;have HB7:=hE (aIq hB7 (aIq (hf7.blk (HBX.out.now hq) (by decide)) (hf7.blk hB6.blk (by decide))));have HO7:=hE ((HO5.out.now hq).frm hf7 (by decide) nZ);clear hB6 hB7 hf7 hA2' hq hq6;refine tkM 1 [14] ?_;refine rd1 15 rfl fun K hK=>?_
    go_simp;refine hK.out _ _ (HSS.out _ HB7.out.2.2 HB7.out.2.1) (fun hHeld=>?_);clear hK K;try simp only[Act.put,lsa,lsz,lss]
    refine wdn ?_;clear hHeld;go_wp2_with fail
    go_roundw
    case rel=>
     have hm1:m+1≤L.length:=by omega
     refine ⟨m+1,_,by go_num,hm1,?_,HB7.out.1,HAS.out▸HO7.out⟩;have:=HSTm.out;rw[HXE.out,HPE.out,Int.toNat_natCast,←HUM.out] at this;exact this
    case measure=>simp[intOf];omega
   ·have hmi:¬(m:Int) < (L.length:Int):=by omega
    have HX:=hE (HEN.out m hlm);have HBZ:=hE hB;have HUM:=hE hum;clear hB hol hum;go_wp2_with fail
    refine bodyPost_ret (results_none rfl _ _ _) rfl ?_;exact ⟨rfl,um,rf,Ar,cr,HUM.out.trans HX.out,Nat.le_succ _,HBZ.out⟩
end Go.Proofs.YtpenlfedkacglaaGreatDoor
namespace Go.Proofs.YtpenlfedkacglaaGreatDoor
open Go.RowKit
attribute [local go_sem] z05 z07 z01 z02
structure j7s (w:World) (S:Nat→Prop) (v:z3n):Prop where
 r1:RdS cB w S v.A1 v.i.occ
 r2:RdS cI w S v.A2 v.i.det
 r3:RdS cB w S v.A3 v.i.clo
 r4:RdS cB w S v.A4 v.i.cla
 r5:RdS cB w S v.A5 v.i.pas
 r6:RdS cI w S v.A6 v.i.calls
 r7:RdS cI w S v.A7 v.i.cans
 n1:v.i.occ.length≤maxLen∧v.i.occ.length≤v.c1
 n2:v.i.det.length≤maxLen∧v.i.det.length≤v.c2
 n3:v.i.clo.length≤maxLen∧v.i.clo.length≤v.c3
 n4:v.i.cla.length≤maxLen∧v.i.cla.length≤v.c4
 n5:v.i.pas.length≤maxLen∧v.i.pas.length≤v.c5
 n6:v.i.calls.length≤maxLen∧v.i.calls.length≤v.c6
 n7:v.i.cans.length≤maxLen∧v.i.cans.length≤v.c7
theorem j7s.rd {w:World} {v:z3n} (h:j7s w (Lt w) v):y1d w v:=⟨h.r1,h.r2,h.r3,h.r4,h.r5,h.r6,h.r7,h.n1,h.n2,h.n3,h.n4,h.n5,h.n6,h.n7⟩
def j5f:Cod Inp where
 size:=7
 rd:=fun w S cs i=>∃ v:z3n,v.i=i∧cs=k05 v∧j7s w S v
 fit:=fun _=>True
 len:=fun ⟨_,_,h,_⟩=>by rw[h];rfl
 keep:=fun ⟨v,h1,h2,h⟩ hk=>⟨v,h1,h2,⟨h.r1.keep hk,h.r2.keep hk,h.r3.keep hk,h.r4.keep hk,h.r5.keep hk,h.r6.keep hk,h.r7.keep hk,h.n1,h.n2,h.n3,h.n4,h.n5,h.n6,h.n7⟩⟩
 more:=fun ⟨v,h1,h2,h⟩ hS=>⟨v,h1,h2,⟨h.r1.more hS,h.r2.more hS,h.r3.more hS,h.r4.more hS,h.r5.more hS,h.r6.more hS,h.r7.more hS,h.n1,h.n2,h.n3,h.n4,h.n5,h.n6,h.n7⟩⟩
theorem RdS.elN {w:World} {S:Nat→Prop} {A:Option Addr} {l:List Inp} (h:RdS j5f w S A l) {i:Nat} (hi:i < l.length):∃ b off v,A=some ⟨b,off,none⟩∧S b∧v.i=l[i]∧j7s w S v∧w.cell? ⟨b,off+i*7,none⟩=some (.slice v.A1 v.i.occ.length v.c1)∧w.cell? ⟨b,off+i*7+1,none⟩=some (.slice v.A2 v.i.det.length v.c2)∧w.cell? ⟨b,off+i*7+2,none⟩=some (.slice v.A3 v.i.clo.length v.c3)∧w.cell? ⟨b,off+i*7+3,none⟩=some (.slice v.A4 v.i.cla.length v.c4)∧w.cell? ⟨b,off+i*7+4,none⟩=some (.slice v.A5 v.i.pas.length v.c5)∧w.cell? ⟨b,off+i*7+5,none⟩=some (.slice v.A6 v.i.calls.length v.c6)∧w.cell? ⟨b,off+i*7+6,none⟩=some (.slice v.A7 v.i.cans.length v.c7):=by
 obtain ⟨b,off,h1,h2,h3⟩:=h (by omega);obtain ⟨ys,⟨v,h4,rfl,h5⟩,h6⟩:=h3 i l[i] (gqE hi);exact ⟨b,off,v,h1,h2,h4,h5,h6 0 _ rfl,h6 1 _ rfl,h6 2 _ rfl,h6 3 _ rfl,h6 4 _ rfl,h6 5 _ rfl,h6 6 _ rfl⟩
def j0c (i:Inp):Bool:=decide (i.occ.length≤100) && (decide (i.det.length≤100) && (decide (i.clo.length≤100) && (decide (i.cla.length≤100) && (decide (i.pas.length≤100) && (decide (i.calls.length≤60) && (decide (i.cans.length≤60)))))))
def j4p (l:Lay) (ins:List Inp):Bool:=decide (l.els.length≤40) && (decide (l.jts.length≤80) && (decide (l.sgs.length≤30) && (decide (l.bls.length≤40) && (decide (l.secs.length≤40) && decide (ins.length≤16)))))
def z6p (l:Lay) (ins:List Inp):Bool:=j4p l ins && ins.all j0c
theorem j6f {l:Lay} {ins:List Inp} (h:j4p l ins=false):z6p l ins=false:=by unfold z6p;rw[h];rfl
theorem y7i {l:Lay} {ins:List Inp}:j4p l ins=true↔l.els.length≤40∧l.jts.length≤80∧l.sgs.length≤30∧l.bls.length≤40∧l.secs.length≤40∧ins.length≤16:=by simp[j4p]
theorem y7l {i:Inp}:j0c i=true↔i.occ.length≤100∧i.det.length≤100∧i.clo.length≤100∧i.cla.length≤100∧i.pas.length≤100∧i.calls.length≤60∧i.cans.length≤60:=by simp[j0c]
def j0j (ins:List Inp) (k:Nat):Prop:=(ins.take k).all j0c=true
theorem x8m {ins:List Inp} {k:Nat} (h:j0j ins k) (hk:k < ins.length) (hx:j0c ins[k]=true):j0j ins (k+1):=by
 unfold j0j at h ⊢;rw[tqS hk,List.all_append,h,List.all_cons,hx];rfl
theorem x44 {l:Lay} {ins:List Inp} {k:Nat} (hk:k < ins.length) (hx:j0c ins[k]=false):z6p l ins=false:=by
 unfold z6p;have:ins.all j0c=false:=by
  rw[List.all_eq_false];exact ⟨ins[k],uE hk,by rw[hx];decide⟩
 rw[this,Bool.and_false]
theorem x8i {l:Lay} {ins:List Inp} {k:Nat} (h1:j4p l ins=true) (h:j0j ins k) (hk:¬k < ins.length):z6p l ins=true:=by
 unfold z6p;unfold j0j at h;rw[tlL (by omega)] at h;rw[h1,h];rfl
theorem x42 (v:LV) (ins:List Inp) (A:Option Addr) (cap:Nat) (w:World) (hr:LvR w v) (hi:RdS j5f w (Lt w) A ins) (hl:ins.length≤maxLen):Calls Tryz.prog 6 #[lvA v,.slice A ins.length cap] w fun e w'=>e=.returned (.bool (z6p v.l ins))∧Below w.heap.size w w':=by
 have hbx:=Lx.new hr;have hn1:=hr.n1.1;have hn2:=hr.n2.1;have hn3:=hr.n3.1;have hn4:=hr.n4.1;have hn5:=hr.n5.1;unfold maxLen at hl hn1 hn2 hn3 hn4 hn5;have x1:=hbx.x1;have x2:=hbx.x2;have x3:=hbx.x3;have x4:=hbx.x4;have x5:=hbx.x5;have xl:=hbx.lt;unfold lvA
 cases hb:j4p v.l ins with
 | false=>
  have HX:=hE (j6f hb);have HN:=hE (show ¬(v.l.els.length≤40∧v.l.jts.length≤80∧v.l.sgs.length≤30∧v.l.bls.length≤40∧v.l.secs.length≤40∧ins.length≤16) from fun h=>by rw[y7i.2 h] at hb;cases hb);have hbw:=hbx.bel;clear hb hbx;go_enter Tryz.func6,Tryz.ntmps6
  go_wp2_with fail
  all_goals (first | (exfalso;have:=HN.out;omega) | (go_ret;exact ⟨z0a HX.out.symm,hbw⟩))
 | true=>
  obtain ⟨h1,h2,h3,h4,h5,h6⟩:=y7i.1 hb;have t1:¬(40:Int) < (v.l.els.length:Int):=by omega
  have t2:¬(80:Int) < (v.l.jts.length:Int):=by omega
  have t3:¬(30:Int) < (v.l.sgs.length:Int):=by omega
  have t4:¬(40:Int) < (v.l.bls.length:Int):=by omega
  have t5:¬(40:Int) < (v.l.secs.length:Int):=by omega
  have t6:¬(16:Int) < (ins.length:Int):=by omega
  have HB:=hE hb;have hbw:=hbx.bel;have hi2:=hi.now (w':=w.alloc (.cells (z1c v) 28)) (bQ.alloc nL _);have HI:=hE hi2;obtain ⟨W2,hW2⟩:∃ W,W=w.alloc (.cells (z1c v) 28):=⟨_,rfl⟩
  rw[←hW2] at HI hbw x1 x2 x3 x4 x5 xl;clear hb hbx hi2 hi hr;go_enter Tryz.func6,Tryz.ntmps6
  go_upto_region 1 with (fail)
  rw[←hW2];clear hW2;go_wp2_with fail
  clear x1 x2 x3 x4 x5 xl t1 t2 t3 t4 t5 t6;go_loopw [41] (fun n wr=>∃ k:Nat,k≤ins.length∧n=.int .i64 k∧Hid (wr=W2)∧j0j ins k) (fun n _=>ins.length - (intOf n).toNat)
  case atStart=>exact ⟨0,nZ,rfl,hE rfl,by simp[j0j]⟩
  case round=>
   obtain ⟨k,hk,rfl,HWR,hp⟩:=hrel;have hwr:=HWR.out;clear HWR;subst hwr;by_cases hlt:k < ins.length
   ·have hki:(k:Int) < (ins.length:Int):=by omega
    obtain ⟨b,off,iv,hA,lb,hie,hiv,q0,q1,q2,q3,q4,q5,q6⟩:=HI.out.elN hlt;subst hA;have lb':b < wr.heap.size:=lb;have m1:=hiv.n1.1;have m2:=hiv.n2.1;have m3:=hiv.n3.1;have m4:=hiv.n4.1;have m5:=hiv.n5.1;have m6:=hiv.n6.1;have m7:=hiv.n7.1;unfold maxLen at m1 m2 m3 m4 m5 m6 m7
    cases hx:j0c iv.i with
    | false=>
     have HX:=hE (x44 (l:=v.l) hlt (by rw[←hie];exact hx));have HN:=hE (show ¬(iv.i.occ.length≤100∧iv.i.det.length≤100∧iv.i.clo.length≤100∧iv.i.cla.length≤100∧iv.i.pas.length≤100∧iv.i.calls.length≤60∧iv.i.cans.length≤60) from fun h=>by rw[y7l.2 h] at hx;cases hx);clear hx hie hp;go_wp2_with fail
     all_goals (first | (exfalso;have:=HN.out;omega) | (go_ret;exact ⟨z0a HX.out.symm,hbw⟩))
    | true=>
     obtain ⟨h1,h2,h3,h4,h5,h6,h7⟩:=y7l.1 hx;have t1:¬(100:Int) < (iv.i.occ.length:Int):=by omega
     have t2:¬(100:Int) < (iv.i.det.length:Int):=by omega
     have t3:¬(100:Int) < (iv.i.clo.length:Int):=by omega
     have t4:¬(100:Int) < (iv.i.cla.length:Int):=by omega
     have t5:¬(100:Int) < (iv.i.pas.length:Int):=by omega
     have t6:¬(60:Int) < (iv.i.calls.length:Int):=by omega
     have t7:¬(60:Int) < (iv.i.cans.length:Int):=by omega
     have HP:=hE (x8m hp hlt (by rw[←hie];exact hx));clear hx hie hp;go_wp2_with fail
     go_roundw
     case rel=>exact ⟨k+1,hlt,by go_num,hE trivial,HP.out⟩
     case measure=>simp[intOf];omega
   ·have hki:¬(k:Int) < (ins.length:Int):=by omega
    have HX:=hE (x8i (l:=v.l) HB.out hp hlt);clear hp hlt;go_wp2_with fail
    go_ret;exact ⟨z0a HX.out.symm,hbw⟩
end Go.Proofs.YtpenlfedkacglaaGreatDoor
