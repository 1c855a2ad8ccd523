import Derived.Test.YtpenlfedkacglaaGreatDoorR13
set_option maxRecDepth 100000
set_option maxHeartbeats 40000000
set_option linter.all false
namespace Go.Proofs.YtpenlfedkacglaaGreatDoor
open Go.RowKit Go.Shelf Go.Lib
attribute [local go_sem] z05 z09 z01 z02
attribute [-go_sem] run_equalIn_agg
structure Fits (t:Tab) (s:Itr):Prop where
 chk:z4p t=0
 l1:s.rts.length=t.rts.length
 l2:s.lies.length=t.pts.length
 st:∀ (k:Nat) (h1:k < s.rts.length) (h2:k < t.rts.length),z0v s.rts[k] t.rts[k].secs.length=true
 ly:∀ (k:Nat) (h1:k < s.lies.length),s.lies[k]=1∨s.lies[k]=2
theorem z9x {t:Tab} {s:Itr} (h:y0z t s=true):Fits t s:=by
 have h0:z4p t=0:=Classical.byContradiction fun hc=>by rw[x2t hc] at h;cases h
 have h1:s.rts.length=t.rts.length:=Classical.byContradiction fun hc=>by rw[x2u hc] at h;cases h
 have h2:s.lies.length=t.pts.length:=Classical.byContradiction fun hc=>by rw[y88 hc] at h;cases h
 rw[y3f h0 h1 h2,uT,laT,laT] at h;refine ⟨h0,h1,h2,fun k k1 k2=>?_,fun k k1=>?_⟩
 ·exact h.1 (s.rts[k],t.rts[k]) (by
   have e:(s.rts.zip t.rts)[k]'(by rw[List.length_zip];omega)=(s.rts[k],t.rts[k]):=by simp
   rw[←e];exact uE _)
 ·have:=h.2 s.lies[k] (uE _);simpa using this
theorem x8u {x:RSt} {n:Int} (h:z0v x n=true) (hs:x.st=0∨x.st=1∨x.st=2):x.rel=0∧x.tim=0:=by
 unfold z0v at h;rw[if_pos hs] at h;simpa using h
theorem rf3 {x:RSt} {n:Int} (h:z0v x n=true) (hs:x.st=3):(0≤x.rel∧x.rel < n)∧(x.tim=0∨(x.rel=n - 1∧0 < x.tim∧x.tim < 4)):=by
 unfold z0v at h;rw[if_neg (by omega),if_pos hs] at h;simpa using h
theorem rf4 {x:RSt} {n:Int} (h:z0v x n=true) (hs:x.st=4):(0≤x.rel∧x.rel < n)∧0≤x.tim∧x.tim < 12:=by
 unfold z0v at h;rw[if_neg (by omega),if_neg (by omega),if_pos hs] at h;simpa using h
theorem j3c {x:RSt} {n:Int} (h:z0v x n=true):x.st=0∨x.st=1∨x.st=2∨x.st=3∨x.st=4:=by
 unfold z0v at h;by_cases h1:x.st=0∨x.st=1∨x.st=2
 ·omega
 ·by_cases h3:x.st=3
  ·omega
  ·by_cases h4:x.st=4
   ·omega
   ·rw[if_neg h1,if_neg h3,if_neg h4] at h;cases h
theorem z4k {t:Tab} (h:z4p t=0) {k:Nat} (hk:k < t.rts.length):0 < t.rts[k].secs.length:=by
 exact List.length_pos_iff.2 ((y0r h).sec _ (uE hk)).2.2
theorem j2u (w:World):PredAt Tryz.prog 109 #[] (Value.int .i64) (fun p:Int=>!(decide (p=1) || decide (p=2))) w:=by
 intro W x hb;show Calls Tryz.prog 109 #[.int .i64 x] W _;by_cases h1:x=1
 ·have t1:(x != 1)=false:=by rw[h1];rfl
  have HX:Hid (false = !(decide (x=1) || decide (x=2))):=hE (by rw[h1];rfl);clear h1;go_enter Tryz.func109,Tryz.ntmps109
  go_wp2_with fail;go_ret
  exact ⟨z0a HX.out,0,rfl⟩
 have t1:(x != 1)=true:=bne_iff_ne.2 h1;by_cases h2:x=2
 ·have t2:(x != 2)=false:=by rw[h2];rfl
  have HX:Hid (false = !(decide (x=1) || decide (x=2))):=hE (by rw[h2];rfl);clear h1 h2;go_enter Tryz.func109,Tryz.ntmps109
  go_wp2_with fail;go_ret
  exact ⟨z0a HX.out,0,rfl⟩
 ·have t2:(x != 2)=true:=bne_iff_ne.2 h2;have HX:Hid (true = !(decide (x=1) || decide (x=2))):=hE (by simp[h1,h2]);clear h1 h2;go_enter Tryz.func109,Tryz.ntmps109
  go_wp2_with fail;go_ret
  exact ⟨z0a HX.out,0,rfl⟩
theorem x7s (l:List Int) (A:Option Addr) (cap:Nat) (w:World) (hr:RdS cI w (Lt w) A l) (hl:l.length≤maxLen) (h:∀ (k:Nat) (h1:k < l.length),l[k]=1∨l[k]=2):Calls Tryz.prog 108 #[.slice A l.length cap,.func (.func 109) #[] #[]] w fun e w'=>e=.returned (.bool false)∧Below w.heap.size w w':=by
 by_cases h0:0 < l.length
 ·have hr2:=hr;obtain ⟨b,off,rfl,hb,-⟩:=hr2 h0;refine (Tryz.slices_ContainsFunc (Value.int .i64) (fun p:Int=>!(decide (p=1) || decide (p=2))) 109 #[] (enters_of Tryz.func109 (by kernel_rfl) rfl) b off l.length cap l w (j2u w) nL (by unfold maxLen at hl;omega) (fun j hj=>?_)).mono ?_
  ·obtain ⟨b',off',hA,-,-,y0⟩:=hr.elI hj;simp only[qE,Addr.mk.injEq,and_true] at hA;obtain ⟨rfl,rfl⟩:=hA;rw[y0,getElem!_pos l j hj]
  ·rintro e w' ⟨rfl,q,rfl⟩;refine ⟨z0a ?_,Below.drewN bQ q⟩;rw[List.take_length,Bool.eq_false_iff];intro hx;rw[List.any_eq_true] at hx;obtain ⟨x,hm,hx⟩:=hx;obtain ⟨i,hi,rfl⟩:=List.getElem_of_mem hm;rcases h i hi with h | h <;> rw[h] at hx <;> simp at hx
 ·obtain rfl:l=[]:=List.eq_nil_of_length_eq_zero (by omega);refine (Tryz.slices_ContainsFunc_empty (α:=Int) A cap _ w).mono ?_;rintro e w' ⟨rfl,rfl⟩;exact ⟨rfl,bQ⟩
theorem x4i (v:z1q) (u:z1r) (w:World) (hr:TvR w v) (hs:y1a w u) (hsm:y4d v.t) (hf:Fits v.t u.i):Calls Tryz.prog 62 #[.agg (z0s v),.agg (z1u u)] w fun e w'=>e=.returned (.bool true)∧Below w.heap.size w w':=by
 obtain ⟨W2,hW2⟩:∃ W,W=(w.alloc (.cells (z0s v) 33)).alloc (.cells (z1u u) 41):=⟨_,rfl⟩
 have hb2:Below w.heap.size w W2:=by rw[hW2];exact (bQ.alloc nL _).alloc (by simp) _
 have hx0:Blk W2 w.heap.size 33 (z0s v):=by rw[hW2];exact (Blk.new _ _ _ _ rfl).alloc _
 have hx1:Blk W2 (w.heap.size+1) 41 (z1u u):=by rw[hW2];exact Blk.new _ _ _ _ (by simp)
 have HCK:=hE (z8k v W2 (hr.now hb2) hsm);rw[hf.chk] at HCK;unfold tvA at HCK;have hn1:=hs.n1.1;have hn2:=hs.n2.1;have hm1:=hr.n1.1;unfold maxLen at hn1 hn2 hm1;have t1:((u.i.rts.length:Int) != (v.t.rts.length:Int))=false:=by rw[hf.l1];exact bne_self_eq_false _
 have t2:((u.i.lies.length:Int) != (v.t.pts.length:Int))=false:=by rw[hf.l2];exact bne_self_eq_false _
 have HF:=hE hf;have HSM:=hE hsm;clear hsm hf;go_enter Tryz.func62,Tryz.ntmps62
 go_wp2_with fail;rw[←hW2];clear hW2;refine HCK.out.mono ?_;rintro e w3 ⟨rfl,hq3⟩;have hb3:=z00 hb2 hb2.size hq3;have hx03:=hx0.now hq3;have hx13:=hx1.now hq3;have HBX:=hE fun W' (h:Below w3.heap.size w3 W')=>aIq (hx03.now h) (hx13.now h)
 have x0:=hx03.cell 0;have x1:=hx03.cell 1;have y0:=hx13.cell 0;have y1:=hx13.cell 1;have l0:=hx03.lt;have l1:=hx13.lt;simp only[gqA,gqZ,gqS] at x0 x1 y0 y1;clear hx0 hx1 hb2 HCK hq3 hx03 hx13;go_wp2_with fail
 clear t1 t2;go_loopw [33] (fun i wr=>∃ k:Nat,k≤u.i.rts.length∧i=.int .i64 k∧Below w3.heap.size w3 wr) (fun i _=>u.i.rts.length - (intOf i).toNat)
 case atStart=>exact ⟨0,nZ,rfl,bQ⟩
 case round=>
  obtain ⟨k,hkl,rfl,hb⟩:=hrel;have hbb:=z00 hb3 hb3.size hb;by_cases hlt:k < u.i.rts.length
  ·have hki:(k:Int) < (u.i.rts.length:Int):=by omega
   have hlt2:k < v.t.rts.length:=by rw[←HF.out.l1];exact hlt
   have hki2:(k:Int) < (v.t.rts.length:Int):=by omega
   obtain ⟨b,off,hA,lb,ho,z0,z1,z2⟩:=(hs.now hbb).r1.elX hlt;obtain ⟨b2,off2,rv,hA2,lb2,hre,hrv,q0,q1,q2,q3,q4,q5,q6,q7,q8,q9,q10,q11,q12,q13⟩:=(hr.now hbb).r1.elR hlt2;clear q0 q1 q2 q3 q4 q6 q7 q8 q9 q10 q11 q12 q13 hrv;have hsec:=(HSM.out _ (uE hlt2)).1;have hfit:=HF.out.st k hlt hlt2;have hpos:=z4k HF.out.chk hlt2;rw[←hre] at hsec hfit hpos;clear hre;obtain ⟨bx,hbx⟩:=HBX.out wr hb;have X0:=bx.cell 0;have X0l:=bx.lt;simp only[gqA,gqZ,gqS] at X0;rw[hA2] at X0;have hal:Below wr.heap.size wr (wr.alloc (.cells #[.int .i64 u.i.rts[k].st,.int .i64 u.i.rts[k].rel,.int .i64 u.i.rts[k].tim] 58)):=bQ.alloc nL _;have hb6:=hE (z00 hb hb.size hal);have lb':b < wr.heap.size:=lb;have lb2':b2 < wr.heap.size:=lb2;rw[hA];generalize u.i.rts[k]=x at *;generalize hn:rv.r.secs.length=n at *;have HST:=hE (j3c hfit);have H012:=hE fun h=>x8u hfit h
   have H3:=hE fun h=>rf3 hfit h
   have H4:=hE fun h=>rf4 hfit h
   obtain ⟨st,rel,tim⟩:=x;dsimp only at *;have hwr:IntKind.i64.wrap ((n:Int) - 1)=(n:Int) - 1:=IntWalk.i64_in _ (by omega);clear hfit hal bx hbx hb hbb HBX lb lb2 hA hA2 hn ho;have hst:=HST.out;rcases hst with rfl | rfl | rfl | rfl | rfl
   ·obtain ⟨rfl,rfl⟩:=H012.out (Or.inl rfl);have hn0:¬(n:Int)≤0:=by omega
    clear H012 H3 H4 HST;go_wp2_with fail
    skip;go_roundw
    case rel=>
     have hk1:k+1≤u.i.rts.length:=hlt;refine ⟨k+1,hk1,by go_num,hb6.out⟩
    case measure=>simp[intOf];omega
   ·obtain ⟨rfl,rfl⟩:=H012.out (Or.inr (Or.inl rfl));have hn0:¬(n:Int)≤0:=by omega
    clear H012 H3 H4 HST;go_wp2_with fail
    skip;go_roundw
    case rel=>
     have hk1:k+1≤u.i.rts.length:=hlt;refine ⟨k+1,hk1,by go_num,hb6.out⟩
    case measure=>simp[intOf];omega
   ·obtain ⟨rfl,rfl⟩:=H012.out (Or.inr (Or.inr rfl));have hn0:¬(n:Int)≤0:=by omega
    clear H012 H3 H4 HST;go_wp2_with fail
    skip;go_roundw
    case rel=>
     have hk1:k+1≤u.i.rts.length:=hlt;refine ⟨k+1,hk1,by go_num,hb6.out⟩
    case measure=>simp[intOf];omega
   ·obtain ⟨⟨hr0,hr1⟩,htm⟩:=H3.out rfl;have hr0':¬rel < 0:=by omega
    have hr1':¬(n:Int)≤rel:=by omega
    clear H012 H3 H4 HST;rcases htm with rfl | ⟨rfl,ht0,ht1⟩
    ·clear hr0 hr1;go_wp2_with fail
     skip;go_roundw
     case rel=>
      have hk1:k+1≤u.i.rts.length:=hlt;refine ⟨k+1,hk1,by go_num,hb6.out⟩
     case measure=>simp[intOf];omega
    ·have ht0':¬tim < 0:=by omega
     have ht1':¬4≤tim:=by omega
     have hnn:((n:Int) - 1 != (n:Int) - 1)=false:=bne_self_eq_false _;go_wp2_with fail
     skip;go_roundw
     case rel=>
      have hk1:k+1≤u.i.rts.length:=hlt;refine ⟨k+1,hk1,by go_num,hb6.out⟩
     case measure=>simp[intOf];omega
   ·obtain ⟨⟨hr0,hr1⟩,ht0,ht1⟩:=H4.out rfl;have hr0':¬rel < 0:=by omega
    have hr1':¬(n:Int)≤rel:=by omega
    have ht0':¬tim < 0:=by omega
    have ht1':¬12≤tim:=by omega
    clear H012 H3 H4 HST hr0 hr1 ht0 ht1;go_wp2_with fail
    skip;go_roundw
    case rel=>
     have hk1:k+1≤u.i.rts.length:=hlt;refine ⟨k+1,hk1,by go_num,hb6.out⟩
    case measure=>simp[intOf];omega
  ·have hki:¬(k:Int) < (u.i.rts.length:Int):=by omega
   obtain ⟨bx,hbx⟩:=HBX.out wr hb;have u1:=hbx.cell 1;have lu:=hbx.lt;simp only[gqA,gqZ,gqS] at u1;have HLI:=hE (x7s u.i.lies u.A2 u.c2 wr (hs.now hbb).r2 hs.n2.1 HF.out.ly);clear HBX bx hbx hb x0 x1 y0 y1 l0 l1;go_wp2_with fail
   refine HLI.out.mono ?_;rintro e w4 ⟨rfl,hq4⟩;have hb4:=z00 hbb hbb.size hq4;go_wp2_with fail
   go_ret;exact ⟨rfl,hb4⟩
instance inhStp:Inhabited Stp:=⟨zP⟩
def j7v (x:Stp):List Value:=[.int .i64 x.el,.int .i64 x.inn,.int .i64 x.out]
theorem j2v (el:Int) (g:Nat) (w:World) (hg:Blk w g 3 #[.int .i64 el]):PredBelow Tryz.prog 146 #[.pointer (some ⟨g,0,none⟩)] (fun x:Stp=>.agg (j7v x).toArray) (fun x:Stp=>decide (x.el=el)) w:=by
 intro W x hb;show Calls Tryz.prog 146 #[.agg #[.int .i64 x.el,.int .i64 x.inn,.int .i64 x.out],.pointer (some ⟨g,0,none⟩)] W _;have hb2:=hb.alloc hb.size (.cells #[.int .i64 x.el,.int .i64 x.inn,.int .i64 x.out] 85);have hx:=(hg.now hb2).cell 0;have hl:=(hg.now hb2).lt;by_cases h1:x.el=el
 ·have t1:(x.el==el)=true:=by rw[h1];simp
  have HX:Hid (true=decide (x.el=el)):=hE (by simp[h1]);clear h1;go_enter Tryz.func146,Tryz.ntmps146
  go_wp2_with fail;go_ret
  exact ⟨z0a HX.out,hb2⟩
 ·have t1:(x.el==el)=false:=by simp[h1]
  have HX:Hid (false=decide (x.el=el)):=hE (by simp[h1]);clear h1;go_enter Tryz.func146,Tryz.ntmps146
  go_wp2_with fail;go_ret
  exact ⟨z0a HX.out,hb2⟩
theorem j2w (el:Int) (g:Nat) (w:World) (hg:Blk w g 3 #[.int .i64 el]):PredBelow Tryz.prog 152 #[.pointer (some ⟨g,0,none⟩)] (fun x:Stp=>.agg (j7v x).toArray) (fun x:Stp=>decide (x.el=el)) w:=by
 intro W x hb;show Calls Tryz.prog 152 #[.agg #[.int .i64 x.el,.int .i64 x.inn,.int .i64 x.out],.pointer (some ⟨g,0,none⟩)] W _;have hb2:=hb.alloc hb.size (.cells #[.int .i64 x.el,.int .i64 x.inn,.int .i64 x.out] 85);have hx:=(hg.now hb2).cell 0;have hl:=(hg.now hb2).lt;by_cases h1:x.el=el
 ·have t1:(x.el==el)=true:=by rw[h1];simp
  have HX:Hid (true=decide (x.el=el)):=hE (by simp[h1]);clear h1;go_enter Tryz.func152,Tryz.ntmps152
  go_wp2_with fail;go_ret
  exact ⟨z0a HX.out,hb2⟩
 ·have t1:(x.el==el)=false:=by simp[h1]
  have HX:Hid (false=decide (x.el=el)):=hE (by simp[h1]);clear h1;go_enter Tryz.func152,Tryz.ntmps152
  go_wp2_with fail;go_ret
  exact ⟨z0a HX.out,hb2⟩
theorem y53 (A:Option Addr) (cap:Nat) (fv:Value) (w:World):Calls Tryz.prog 162 #[.slice A 0 cap,fv] w fun e w'=>e=.returned (.int .i64 (-1))∧w' = w:=by
 go_enter Tryz.func162,Tryz.ntmps162
 go_wp2_with fail;go_loopw [8] (fun i wr=>i=.int .i64 0∧Hid (wr=w)) (fun _ _=>0)
 case atStart=>exact ⟨rfl,hE rfl⟩
 case round=>
  obtain ⟨rfl,HW⟩:=hrel;go_wp2_with fail
  go_ret;exact ⟨rfl,HW.out⟩
theorem y6p (A:Option Addr) (cap:Nat) (fv:Value) (w:World):Calls Tryz.prog 145 #[.slice A 0 cap,fv] w fun e w'=>e=.returned (.bool false)∧w' = w:=by
 have HI:=hE (y53 A cap fv w);go_enter Tryz.func145,Tryz.ntmps145
 go_wp2_with fail;refine HI.out.mono ?_;rintro e w2 ⟨rfl,rfl⟩;go_wp2_with fail
 go_ret;exact ⟨rfl,rfl⟩
theorem z5q (g:Nat) (lb:Array Value) (p:Stp→Bool) (eg:∀ args w,(callFunc g args).run Tryz.prog w=.ok (.enter g args) w) (l:List Stp) (A:Option Addr) (cap:Nat) (w:World) (hp:PredBelow Tryz.prog g lb (fun x:Stp=>.agg (j7v x).toArray) p w) (hr:RdS z1i w (Lt w) A l) (hl:l.length≤maxLen):Calls Tryz.prog 145 #[.slice A l.length cap,.func (.func g) #[] lb] w fun e w'=>e=.returned (.bool (l.any p))∧Below w.heap.size w w':=by
 by_cases h0:0 < l.length
 ·have hr2:=hr;obtain ⟨b,off,rfl,hb,-⟩:=hr2 h0;refine (AnyQ.slices_ContainsFunc Tryz.layH145 3 Tryz.isAgg85 Tryz.sizeOf85 j7v (fun _=>rfl) p g lb eg b off l.length cap l w hp nL (by unfold maxLen at hl;omega) hb (fun j hj i v hv=>?_)).mono ?_
  ·obtain ⟨b',off',hA,-,-,y0,y1,y2⟩:=hr.elT hj;simp only[qE,Addr.mk.injEq,and_true] at hA;obtain ⟨rfl,rfl⟩:=hA;rw[getElem!_pos l j hj] at hv
   match i,hv with
   | 0,hv=>obtain rfl:=sJ hv;exact y0
   | 1,hv=>obtain rfl:=sJ hv;exact y1
   | 2,hv=>obtain rfl:=sJ hv;exact y2
  ·rintro e w' ⟨rfl,hq⟩;rw[List.take_length];exact ⟨rfl,hq⟩
 ·obtain rfl:l=[]:=List.eq_nil_of_length_eq_zero (by omega);refine (y6p A cap _ w).mono ?_;rintro e w' ⟨rfl,rfl⟩;exact ⟨rfl,bQ⟩
theorem y9y (l:List Stp) (A:Option Addr) (cap:Nat) (el:Int) (w:World) (hr:RdS z1i w (Lt w) A l) (hl:l.length≤maxLen):Calls Tryz.prog 94 #[.slice A l.length cap,.int .i64 el] w fun e w'=>e=.returned (.bool (l.any fun s=>decide (s.el=el)))∧Below w.heap.size w w':=by
 obtain ⟨W2,hW2⟩:∃ W,W=w.alloc (.cells #[.int .i64 el] 3):=⟨_,rfl⟩
 have hb:Below w.heap.size w W2:=by rw[hW2];exact bQ.alloc nL _
 have hg:Blk W2 w.heap.size 3 #[.int .i64 el]:=by rw[hW2];exact Blk.new _ _ _ _ rfl
 have HC:=hE (z5q 146 #[.pointer (some ⟨w.heap.size,0,none⟩)] (fun x:Stp=>decide (x.el=el)) (enters_of Tryz.func146 (by kernel_rfl) rfl) l A cap W2 (j2v el _ W2 hg) (hr.now hb) hl);generalize (l.any fun s=>decide (s.el=el))=r at *;go_enter Tryz.func94,Tryz.ntmps94
 go_wp2_with fail;rw[←hW2];clear hW2;refine HC.out.mono ?_;rintro e w2 ⟨rfl,hq⟩;have hb2:=z00 hb hb.size hq;go_wp2_with fail
 go_ret;exact ⟨rfl,hb2⟩
theorem y1f (x:Int) (l:List Int) (A:Option Addr) (cap:Nat) (w:World) (hr:RdS cI w (Lt w) A l) (hl:l.length≤maxLen):Calls Tryz.prog 95 #[.int .i64 x,.slice A l.length cap] w fun e w'=>e=.returned (.bool (decide (x∈l)))∧Below w.heap.size w w':=by
 have HC:=hE (z4y l x A cap w hr hl);generalize decide (x∈l)=r at *;go_enter Tryz.func95,Tryz.ntmps95
 go_wp2_with fail;refine HC.out.mono ?_;rintro e w2 ⟨rfl,rfl⟩;go_wp2_with fail
 go_ret;exact ⟨rfl,bQ⟩
theorem j5o:EqlAt Tryz.prog 78 (fun x:Stg=>.agg (z3j x).toArray) (fun x y=>decide (x=y)):=
 ⟨fun x y w=>by
  have this:(Op.equalIn Op.maxDepth 78 (.agg #[.int .i64 x.el,.int .i64 x.pos]) (.agg #[.int .i64 y.el,.int .i64 y.pos])).run Tryz.prog w=.ok (decide (x=y)) w:=y4s w 9998 x y;simp only[z3j];simp only[binOp];first | (simp[Op.equal,this];done) | (unfold Op.equal;simp_all [go_sem];done),GuardAt.agg _ (by kernel_rfl)⟩
theorem j3s (x:Stg) (l:List Stg):(l.any fun y=>decide (x=y))=decide (x∈l):=by
 rw[Bool.eq_iff_iff];simp
theorem y54 (A:Option Addr) (cap:Nat) (x y:Int) (w:World):Calls Tryz.prog 175 #[.slice A 0 cap,.agg #[.int .i64 x,.int .i64 y]] w fun e w'=>e=.returned (.int .i64 (-1))∧Below w.heap.size w w':=by
 go_enter Tryz.func175,Tryz.ntmps175
 have hb:Below w.heap.size w (w.alloc (.cells #[.int .i64 x,.int .i64 y] 78)):=bQ.alloc nL _;go_wp2_with fail
 go_loopw [8] (fun i wr=>i=.int .i64 0∧Below w.heap.size w wr) (fun _ _=>0)
 case atStart=>exact ⟨rfl,hb⟩
 case round=>
  obtain ⟨rfl,hb2⟩:=hrel;go_wp2_with fail
  go_ret;exact ⟨rfl,hb2⟩
theorem y6v (A:Option Addr) (cap:Nat) (x y:Int) (w:World):Calls Tryz.prog 168 #[.slice A 0 cap,.agg #[.int .i64 x,.int .i64 y]] w fun e w'=>e=.returned (.bool false)∧Below w.heap.size w w':=by
 obtain ⟨W2,hW2⟩:∃ W,W=w.alloc (.cells #[.int .i64 x,.int .i64 y] 78):=⟨_,rfl⟩
 have hb:Below w.heap.size w W2:=by rw[hW2];exact bQ.alloc nL _
 have hx:Blk W2 w.heap.size 78 #[.int .i64 x,.int .i64 y]:=by rw[hW2];exact Blk.new _ _ _ _ rfl
 have x0:=hx.cell 0;have x1:=hx.cell 1;have xl:=hx.lt;simp only[gqA,gqZ,gqS] at x0 x1;have ld:=z04 hx 2 rfl;have HI:=hE (y54 A cap x y W2);clear hx;go_enter Tryz.func168,Tryz.ntmps168
 go_wp2_with fail;rw[←hW2];clear hW2;go_wp2_with fail
 refine HI.out.mono ?_;rintro e w2 ⟨rfl,hq⟩;have hb2:=z00 hb hb.size hq;go_wp2_with fail
 go_ret;exact ⟨rfl,hb2⟩
theorem z3x (x:Stg) (l:List Stg) (A:Option Addr) (cap:Nat) (w:World) (hr:RdS z3h w (Lt w) A l) (hl:l.length≤maxLen):Calls Tryz.prog 168 #[.slice A l.length cap,.agg #[.int .i64 x.el,.int .i64 x.pos]] w fun e w'=>e=.returned (.bool (decide (x∈l)))∧Below w.heap.size w w':=by
 by_cases h0:0 < l.length
 ·have hr2:=hr;obtain ⟨b,off,rfl,hb,-⟩:=hr2 h0;refine (AnyQ.slices_Contains Tryz.layQ168 2 Tryz.isAgg78 Tryz.sizeOf78 z3j (fun _=>rfl) (fun x y=>decide (x=y)) j5o b off l.length cap l x w nL (by unfold maxLen at hl;omega) (fun j hj i v hv=>?_)).mono ?_
  ·obtain ⟨b',off',hA,-,-,y0,y1⟩:=hr.elG hj;simp only[qE,Addr.mk.injEq,and_true] at hA;obtain ⟨rfl,rfl⟩:=hA;rw[getElem!_pos l j hj] at hv
   match i,hv with
   | 0,hv=>obtain rfl:=sJ hv;exact y0
   | 1,hv=>obtain rfl:=sJ hv;exact y1
  ·rintro e w' ⟨rfl,hq⟩;rw[List.take_length,j3s];exact ⟨rfl,hq⟩
 ·obtain rfl:l=[]:=List.eq_nil_of_length_eq_zero (by omega);refine (y6v A cap _ _ w).mono ?_;rintro e w' ⟨rfl,hq⟩;exact ⟨rfl,hq⟩
theorem x0w (v:z2t) (el:Int) (w:World) (hr:RvR w (Lt w) v):Calls Tryz.prog 123 #[.agg (z0f v),.int .i64 el] w fun e w'=>e=.returned (.bool (j4k v.r el))∧Below w.heap.size w w':=by
 obtain ⟨W2,hW2⟩:∃ W,W=(w.alloc (.cells (z0f v) 56)).alloc (.cells #[.int .i64 el] 3):=⟨_,rfl⟩
 have hb:Below w.heap.size w W2:=by rw[hW2];exact (bQ.alloc nL _).alloc (by simp) _
 have hg:Blk W2 (w.heap.size+1) 3 #[.int .i64 el]:=by rw[hW2];exact Blk.new _ _ _ _ (by simp)
 have hx:Blk W2 w.heap.size 56 (z0f v):=by rw[hW2];exact (Blk.new _ _ _ _ rfl).alloc _
 have HC:=hE fun W (h:Below W2.heap.size W2 W) (l:List Stp) A cap (hl:RdS z1i W (Lt W) A l) (hn:l.length≤maxLen)=>z5q 152 #[.pointer (some ⟨w.heap.size+1,0,none⟩)] (fun x:Stp=>decide (x.el=el)) (enters_of Tryz.func152 (by kernel_rfl) rfl) l A cap W (j2w el _ W (hg.now h)) hl hn
 have hr2:=hr.now hb;obtain ⟨p,hp⟩:∃ p,(v.r.path.any fun s=>decide (s.el=el))=p:=⟨_,rfl⟩
 obtain ⟨q,hq⟩:∃ q,(v.r.over.any fun s=>decide (s.el=el))=q:=⟨_,rfl⟩
 have HX:Hid ((p || q)=j4k v.r el):=hE (by unfold j4k;rw[hp,hq]);have HP:=HC.out W2 bQ v.r.path v.A1 v.c1 hr2.r1 hr2.o.n1.1;have HO:=hE fun W (h:Below W2.heap.size W2 W)=>HC.out W h v.r.over v.A4 v.c4 (hr2.now h).r4 hr2.o.n4.1
 rw[hp] at HP;rw[hq] at HO;have HP:=hE HP;clear hp hq HC;have x3:=hx.cell 3;have x8:=hx.cell 8;have xl:=hx.lt;simp only[gqA,gqZ,gqS] at x3 x8;have HS:Hid (∀ W,Below W2.heap.size W2 W→W.cell? ⟨w.heap.size,8,none⟩=some (.slice v.A4 v.r.over.length v.c4)∧w.heap.size < W.heap.size):=hE fun W h=>⟨(h.cell xl).trans x8,nT xl h.size⟩
 go_enter Tryz.func123,Tryz.ntmps123
 go_wp2_with fail;rw[←hW2];clear hW2;go_wp2_with fail
 refine HP.out.mono ?_;rintro e w3 ⟨rfl,hq3⟩;have hb3:=z00 hb hb.size hq3;obtain ⟨z8,zl⟩:=HS.out _ hq3;cases p
 ·go_wp2_with fail;refine (HO.out _ hq3).mono ?_;rintro e w4 ⟨rfl,hq4⟩;have hb4:=z00 hb3 hb3.size hq4;go_wp2_with fail
  go_ret;exact ⟨z0a (by rw[←HX.out];simp),hb4⟩
 ·go_wp2_with fail;go_ret
  exact ⟨z0a (by rw[←HX.out];simp),hb3⟩
theorem x3u (v:z2t) (x:Stg) (w:World) (hr:RvR w (Lt w) v):Calls Tryz.prog 153 #[.agg (z0f v),.agg #[.int .i64 x.el,.int .i64 x.pos]] w fun e w'=>e=.returned (.bool (y7i v.r x))∧Below w.heap.size w w':=by
 obtain ⟨W2,hW2⟩:∃ W,W=(w.alloc (.cells (z0f v) 56)).alloc (.cells #[.int .i64 x.el,.int .i64 x.pos] 78):=⟨_,rfl⟩
 have hb:Below w.heap.size w W2:=by rw[hW2];exact (bQ.alloc nL _).alloc (by simp) _
 have hg:Blk W2 (w.heap.size+1) 78 #[.int .i64 x.el,.int .i64 x.pos]:=by rw[hW2];exact Blk.new _ _ _ _ (by simp)
 have hx:Blk W2 w.heap.size 56 (z0f v):=by rw[hW2];exact (Blk.new _ _ _ _ rfl).alloc _
 have hr2:=hr.now hb;have HC1:=hE (fun W (h:Below W2.heap.size W2 W)=>z3x x v.r.pts v.A2 v.c2 W (hr2.now h).r2 hr2.o.n2.1);have HC2:=hE (fun W (h:Below W2.heap.size W2 W)=>z3x x v.r.opts v.A5 v.c5 W (hr2.now h).r5 hr2.o.n5.1);have HC3:=hE (fun W (h:Below W2.heap.size W2 W)=>z3x x v.r.flk v.A7 v.c7 W (hr2.now h).r7 hr2.o.n7.1);obtain ⟨p,hp⟩:∃ p,decide (x∈v.r.pts)=p:=⟨_,rfl⟩
 obtain ⟨q,hq⟩:∃ q,decide (x∈v.r.opts)=q:=⟨_,rfl⟩
 obtain ⟨r,hrr⟩:∃ r,decide (x∈v.r.flk)=r:=⟨_,rfl⟩
 have HX:Hid ((p || (q || r))=y7i v.r x):=hE (by unfold y7i;rw[hp,hq,hrr]);rw[hp] at HC1;rw[hq] at HC2;rw[hrr] at HC3;clear hp hq hrr;have HS:Hid (∀ W,Below W2.heap.size W2 W→W.cell? ⟨w.heap.size,4,none⟩=some (.slice v.A2 v.r.pts.length v.c2)∧W.cell? ⟨w.heap.size,9,none⟩=some (.slice v.A5 v.r.opts.length v.c5)∧W.cell? ⟨w.heap.size,11,none⟩=some (.slice v.A7 v.r.flk.length v.c7)∧w.heap.size < W.heap.size∧w.heap.size+1 < W.heap.size∧W.cell? ⟨w.heap.size+1,0,none⟩=some (.int .i64 x.el)∧W.cell? ⟨w.heap.size+1,1,none⟩=some (.int .i64 x.pos)):=hE fun W h=>⟨(hx.now h).cell 4,(hx.now h).cell 9,(hx.now h).cell 11,(hx.now h).lt,(hg.now h).lt,(hg.now h).cell 0,(hg.now h).cell 1⟩
 clear hx hg hr hr2;obtain ⟨xa,xb⟩:=x;dsimp only at HC1 HC2 HC3 HS hW2 ⊢;go_enter Tryz.func153,Tryz.ntmps153
 go_wp2_with fail;rw[←hW2];clear hW2;obtain ⟨z4,z9,z11,zl,zk,l0,l1⟩:=HS.out _ bQ;go_wp2_with fail
 refine (HC1.out _ bQ).mono ?_;rintro e w3 ⟨rfl,hq3⟩;have hb3:=z00 hb hb.size hq3;clear z4 z9 z11 zl zk l0 l1;obtain ⟨z4,z9,z11,zl,zk,l0,l1⟩:=HS.out _ hq3;cases p
 ·go_wp2_with fail;refine (HC2.out _ hq3).mono ?_;rintro e w4 ⟨rfl,hq4⟩;have hb4:=z00 hb3 hb3.size hq4;have hq4':=z00 hq3 hq3.size hq4;clear z4 z9 z11 zl zk l0 l1;obtain ⟨z4,z9,z11,zl,zk,l0,l1⟩:=HS.out _ hq4';cases q
  ·go_wp2_with fail;refine (HC3.out _ hq4').mono ?_;rintro e w5 ⟨rfl,hq5⟩;have hb5:=z00 hb4 hb4.size hq5;go_wp2_with fail
   go_ret;exact ⟨z0a (by rw[←HX.out];simp),hb5⟩
  ·go_wp2_with fail;go_ret
   exact ⟨z0a (by rw[←HX.out];simp),hb4⟩
 ·go_wp2_with fail;go_ret
  exact ⟨z0a (by rw[←HX.out];simp),hb3⟩
theorem x0x (v:LV) (hm:v.l.els.length≤1000) (w:World) (hr:LvR w v):Calls Tryz.prog 17 #[lvA v] w (y4c cI 3 w (z1m v.l)):=by
 obtain ⟨i0,hi0,hz0,hz1,hz2⟩:=info_parts j5u;have hbx:=Lx.new hr;obtain ⟨pf,hpf⟩:∃ pf:Nat→List Int,pf=fun k=>((List.range k).map fun (i:Nat)=>(i:Int)).filter fun i=>decide (z0q v.l i=2):=⟨_,rfl⟩
 have HPE:Hid (pf v.l.els.length=z1m v.l):=hE (by rw[hpf];rfl);have HL:Hid (∀ k,(pf k).length≤k):=hE fun k=>by rw[hpf];exact nR (List.length_filter_le _ _) (by simp)
 have HS:Hid (∀ k (h:k < v.l.els.length),pf (k+1)=pf k++(if v.l.els[k].kind=2 then [(k:Int)] else [])):=hE fun k h=>by
  have hk:z0q v.l (k:Int)=v.l.els[k].kind:=by simp[z0q,h]
  subst hpf;simp only[List.range_succ,List.map_append,List.filter_append,List.map_cons,List.map_nil];congr 1;by_cases he:v.l.els[k].kind=2 <;> simp[hk,he]
 have HZ:Hid (pf 0=[]):=hE (by rw[hpf];rfl);clear hpf;unfold lvA;go_enter Tryz.func17,Tryz.ntmps17
 go_wp2_with fail;go_loopw [3,9] (fun s n wr=>∃ k:Nat,k≤v.l.els.length∧n=.int .i64 k∧z07 cI wr w.heap.size 3 s (pf k) 0∧Lx w wr v) (fun _ n _=>v.l.els.length - (intOf n).toNat)
 case atStart=>exact ⟨0,nZ,rfl,by rw[HZ.out];exact z07.nil _ _ _ _ nZ,hbx⟩
 case round=>
  obtain ⟨k,hk,rfl,hown,hb⟩:=hrel;clear hbx;have hsz:=hb.bel.size;by_cases hlt:k < v.l.els.length
  ·have hki:(k:Int) < (v.l.els.length:Int):=by omega
   obtain ⟨b,off,hA,lb,ho,y0,y1,y2,y3,y4,y5,y6⟩:=hb.rd.r2.elE hlt;have hba:=hb.alloc (.cells #[.string (bs v.l.els[k].name),.int .i64 v.l.els[k].kind,.int .i64 v.l.els[k].len,.int .i64 v.l.els[k].grd,.int .i64 v.l.els[k].spd,.int .i64 v.l.els[k].slow,.int .i64 v.l.els[k].sec] 103);have hown1:=hown.alloc (.cells #[.string (bs v.l.els[k].name),.int .i64 v.l.els[k].kind,.int .i64 v.l.els[k].len,.int .i64 v.l.els[k].grd,.int .i64 v.l.els[k].spd,.int .i64 v.l.els[k].slow,.int .i64 v.l.els[k].sec] 103);have hsa:=hba.bel.size;rw[hA];have hs1:=HS.out k hlt;have hkl:=HL.out k;by_cases hx:v.l.els[k].kind=2
   ·have HN:Hid (pf (k+1)=pf k++[(k:Int)]):=hE (by rw[hs1,if_pos hx]);have hxb:(v.l.els[k].kind==2)=true:=by simp[hx]
    clear hx hA ho hs1;generalize v.l.els[k]=q at *;generalize hM:pf k=ms at *;clear hM;go_wp2_with (at_builtin;go_loud (refine z0g (c:=cI) _ rfl _ _ 31 rfl w.heap.size 3 i0 _ 8 Tryz.underlying31 hi0 hz0 hz1 hz2 rfl (by decide) _ ms 0 rfl hown1 [_] (k:Int) ⟨rfl,by unfold z0p;omega⟩ (by simp[Value.oneCell']) _ (by simp[Act.eval]) (by omega) (by omega) (by simp;omega) ?_);intro v' w5 hown5 hf5 hs5)
    go_roundw
    case rel=>exact ⟨k+1,by omega,by go_num,by rw[HN.out];exact hown5,⟨hf5.keeps nL hsa hba.bel,hf5.blk hba.blk (by decide),hr.now (hf5.keeps nL hsa hba.bel)⟩⟩
    case measure=>simp[intOf];omega
   ·have HN:Hid (pf (k+1)=pf k):=hE (by rw[hs1,if_neg hx];simp);have hxb:(v.l.els[k].kind==2)=false:=by rw[beq_eq_false_iff_ne];exact hx
    clear hx hA ho hs1;generalize v.l.els[k]=q at *;go_wp2_with fail
    go_roundw
    case rel=>exact ⟨k+1,by omega,by go_num,by rw[HN.out];exact hown1,hba⟩
    case measure=>simp[intOf];omega
  ·obtain rfl:k=v.l.els.length:=by omega
   rw[HPE.out] at hown;obtain ⟨A',c',hv⟩:=hown.form;have HO:=hE hown;have hbb:=hb.bel;clear hown HS HL HPE;subst hv;generalize z1m v.l=ns at *;go_wp2_with fail
   go_ret;exact z0y rfl rfl HO.out hbb
end Go.Proofs.YtpenlfedkacglaaGreatDoor
namespace Go.Proofs.YtpenlfedkacglaaGreatDoor
open Go.RowKit
attribute [local go_sem] z05 z09 z01 z02
attribute [-go_sem] run_equalIn_agg
theorem y55 (x:Int):∀ (l:List Int) (i:Nat),Lib.idxFrom l x i=if z5l l x < 0 then -1 else (i:Int)+z5l l x
 | [],i=>by simp[Lib.idxFrom,z5l]
 | a::l,i=>by
  have ih:=y55 x l (i+1);have hg:=z8c l x;unfold Lib.idxFrom z5l;by_cases h:a=x
  ·simp[h]
  ·simp only[h,if_false];first | rw[if_neg (by simpa using h)] | skip
   rw[ih];by_cases h2:z5l l x < 0
   ·simp[h2]
   ·simp only[h2,if_false];rw[if_neg (by omega)];omega
theorem j1p (l:List Int) (x:Int):Lib.idxOf l x=z5l l x:=by
 have:=y55 x l 0;have hg:=z8c l x;unfold Lib.idxOf;rw[this];split
 ·omega
 ·omega
theorem x0i (l:List Int) (A:Option Addr) (cap:Nat) (x:Int) (w:World) (hr:RdS cI w (Lt w) A l) (hl:l.length≤maxLen) (h0:0 < l.length):Calls Tryz.prog 107 #[.slice A l.length cap,.int .i64 x] w fun e w'=>e=.returned (.int .i64 (z5l l x))∧w' = w:=by
 have hr2:=hr;obtain ⟨b,off,rfl,hb,-⟩:=hr2 h0;refine (Tryz.slices_Index_int b off l.length cap l x w nL (by unfold maxLen at hl;omega) (fun j hj=>?_)).mono ?_
 ·obtain ⟨b',off',hA,-,-,y0⟩:=hr.elI hj;simp only[qE,Addr.mk.injEq,and_true] at hA;obtain ⟨rfl,rfl⟩:=hA;rw[y0];simp[List.getD,hj]
 ·rintro e w' ⟨rfl,rfl⟩;rw[List.take_length,j1p];exact ⟨rfl,rfl⟩
theorem z4a (v:z1q) (x:Int) (w:World) (hr:TvR w v) (hx:x∈v.t.pts):Calls Tryz.prog 60 #[.agg (z0s v),.int .i64 x] w fun e w'=>e=.returned (.int .i64 (plF v.t x))∧Below w.heap.size w w':=by
 have hb:=Bx.new hr;have x1:=hb.x1;have HI:=hE (x0i v.t.pts v.A2 v.c2 x _ hb.rd.r2 hr.n2.1 (List.length_pos_of_mem hx));have HP:Hid (z5l v.t.pts x=plF v.t x):=hE rfl;go_enter Tryz.func60,Tryz.ntmps60
 go_wp2_with fail;refine HI.out.mono ?_;rintro e w1 ⟨rfl,rfl⟩;rw[HP.out];clear x1;go_wp2_with fail
 go_ret;exact ⟨rfl,hb.bel⟩
structure j4e (r:Rou):Prop where
 n1:r.path.length≤30000
 n2:r.pts.length≤30000
 n3:r.secs.length≤30000
 n4:r.over.length≤30000
 n5:r.opts.length≤30000
 n6:r.osecs.length≤30000
 n7:r.flk.length≤30000
def y4e (t:Tab):Prop:=∀ r∈t.rts,j4e r
theorem y4e.ok {t:Tab} (h:y4e t):y4d t:=fun r hr=>⟨by have:=(h r hr).n3;omega,by have:=(h r hr).n6;omega⟩
theorem y6y {α:Type} {p:α→Bool} {l:List α} {k:Nat} (h:k < l.length):(l.take (k+1)).filter p=(l.take k).filter p++(if p l[k]=true then [l[k]] else []):=by
 rw[tqS h,List.filter_append];congr 1;cases hp:p l[k] <;> simp[hp]
theorem filter_le {α:Type} (p:α→Bool) (l:List α) (k:Nat):((l.take k).filter p).length≤l.length:=nR (List.length_filter_le _ _) (by rw[lTk];omega)
theorem y3z {t:Tab} (hc:z4p t=0) {el:Int} (h:el∈t.pts):∃ j:Nat,plF t el=j∧j < t.pts.length∧j < t.homes.length:=by
 obtain ⟨h1,h2⟩:=y8c h;have h3:=z8c t.pts el;refine ⟨(plF t el).toNat,?_,?_,?_⟩ <;> unfold plF
 ·omega
 ·omega
 ·rw[(y0r hc).hl];omega
theorem j00 {t:Tab} {j:Nat} (h:j < t.homes.length):x7a t (j:Int)=t.homes[j]:=by simp[x7a,List.getD,h]
def j8c (t:Tab) (r:Rou) (s:RSt):Rou:={ zR with pts:=j4l t r s,opts:=r.opts,flk:=r.flk }
theorem j4z {t:Tab} {r:Rou} {s:RSt} (h:s.st≠0):z5k t r s=z1t (j8c t r s):=by unfold z5k;rw[if_neg h];rfl
def j7t (t:Tab) (r:Rou) (s:RSt) (x:Stg):Bool:=!decide (x7a t (plF t x.el)∈r.secs.take s.rel.toNat)
theorem j3b (t:Tab) (r:Rou) (s:RSt):j4l t r s=r.pts.filter (j7t t r s):=rfl
theorem y4i (v:z1q) (rv:z2t) (s:RSt) (w:World) (hr:TvR w v) (hrv:RvR w (Lt w) rv) (hck:z4p v.t=0) (hm:rv.r∈v.t.rts) (hS:j4e rv.r) (hrel:x5v rv.r.secs.length s):Calls Tryz.prog 59 #[.agg (z0s v),.agg (z0f rv),.agg #[.int .i64 s.st,.int .i64 s.rel,.int .i64 s.tim]] w (y4c z3h 78 w (z5k v.t rv.r s)):=by
 obtain ⟨i0,hi,hy0,hy1,hy2⟩:=info_parts z3g;obtain ⟨W2,hW2⟩:∃ W,W=((w.alloc (.cells (z0s v) 33)).alloc (.cells (z0f rv) 56)).alloc (.cells #[.int .i64 s.st,.int .i64 s.rel,.int .i64 s.tim] 58):=⟨_,rfl⟩
 have hb2:Below w.heap.size w W2:=by rw[hW2];exact ((bQ.alloc nL _).alloc (by simp) _).alloc (by simp;omega) _
 have hx0:Blk W2 w.heap.size 33 (z0s v):=by rw[hW2];exact ((Blk.new _ _ _ _ rfl).alloc _).alloc _
 have hx1:Blk W2 (w.heap.size+1) 56 (z0f rv):=by rw[hW2];exact (Blk.new _ _ _ _ (by simp)).alloc _
 have hx2:Blk W2 (w.heap.size+2) 58 #[.int .i64 s.st,.int .i64 s.rel,.int .i64 s.tim]:=by rw[hW2];exact Blk.new _ _ _ _ (by simp)
 by_cases h0:s.st=0
 ·have HX:Hid ([]=z5k v.t rv.r s):=hE (by unfold z5k;rw[if_pos h0]);have t1:(s.st==0)=true:=by simpa using h0
  have HB:=hE hb2;rw[hW2] at HB;clear h0 hrel hb2 hx0 hx1 hx2 hW2;go_enter Tryz.func59,Tryz.ntmps59
  go_wp2_with fail;go_ret
  exact z0y HX.out rfl (z07.nil _ _ _ _ nZ) HB.out
 obtain ⟨k,hk,hlt⟩:=hrel h0;have HX:=hE (j4z (t:=v.t) (r:=rv.r) h0);have t1:(s.st==0)=false:=by simpa using h0
 clear h0 hrel;have hc3:=hrv.o.n3;have hc2:=hrv.o.n2;have hs3:=hS.n3;have hs2:=hS.n2;unfold maxLen at hc3 hc2;obtain ⟨bs3,off3,hA3,lb3,-,-⟩:=(hrv.now hb2).r3.elI hlt;have HRT:Hid (RdS cI W2 (Lt W2) (some ⟨bs3,off3,none⟩) (rv.r.secs.take k)):=hE (by have:=(hrv.now hb2).r3.take k;rwa [hA3] at this);have HCK:=hE hck;have HPT:Hid (∀ x∈rv.r.pts,x.el∈v.t.pts):=hE fun x hx=>((y0r hck).stg _ hm x (by simp[hx])).1
 have HA3:=hE hA3;clear hA3;have hkc:¬rv.c3=0:=by omega
 have hkl:(k:Int)≤(rv.r.secs.length:Int):=by omega
 have hkcap:(k:Int)≤(rv.c3:Int):=by omega
 have hk0:(0:Int)≤(k:Int):=by omega
 have HPP:Hid (∀ x,j7t v.t rv.r s x = !decide (x7a v.t (plF v.t x.el)∈rv.r.secs.take k)):=hE fun x=>by unfold j7t;rw[hk];rfl
 have HTL:=hE (show (rv.r.secs.take k).length=k by rw[lTk];omega);obtain ⟨st,rel,tim⟩:=s;dsimp only at hk t1 hx2 hW2 HX HPP ⊢;subst hk;have HPL:=hE (j3b v.t rv.r ⟨st,(k:Int),tim⟩);go_enter Tryz.func59,Tryz.ntmps59
 go_wp2_with fail;rw[←hW2];clear hW2 hck hm;generalize hPp:j7t v.t rv.r ⟨st,(k:Int),tim⟩=pp at *;go_loopw [7,16] (fun a i wr=>∃ j:Nat,j≤rv.r.pts.length∧i=.int .i64 j∧z07 z3h wr W2.heap.size 78 a ((rv.r.pts.take j).filter pp) 0∧Below W2.heap.size W2 wr) (fun _ i _=>rv.r.pts.length - (intOf i).toNat)
 case atStart=>exact ⟨0,nZ,rfl,z07.nil _ _ _ _ nZ,bQ⟩
 case round=>
  obtain ⟨j,hj,rfl,hacc,hb⟩:=hrel;have hsz:=hb.size;have hbb:=z00 hb2 hb2.size hb;have hal:=filter_le pp rv.r.pts j;by_cases hltj:j < rv.r.pts.length
  ·have hji:(j:Int) < (rv.r.pts.length:Int):=by omega
   obtain ⟨b,off,hA,lb,ho,y0,y1⟩:=(hrv.now hbb).r2.elG hltj;have lbw:b < wr.heap.size:=lb;have HS:=hE (y6y (p:=pp) hltj);obtain ⟨m,hm,hm1,hm2⟩:=y3z HCK.out (HPT.out _ (uE hltj));have HQ:Hid (pp rv.r.pts[j] = !decide (v.t.homes[m]∈rv.r.secs.take k)):=hE (by rw[HPP.out,hm,j00 hm2]);obtain ⟨bh,offh,hAh,lbh,hoh,z0⟩:=(hr.now hbb).r3.elI hm2;have HIX:=hE fun W' (h:Below wr.heap.size wr W')=>z4a v rv.r.pts[j].el W' (hr.now (z00 hbb hbb.size h)) (HPT.out _ (uE hltj))
   have HHAS:=hE fun W' (h:Below wr.heap.size wr W')=>x7d (rv.r.secs.take k) v.t.homes[m] (some ⟨bs3,off3,none⟩) rv.c3 W' (HRT.out.now (z00 hb hb.size h)) (by rw[HTL.out];unfold maxLen;omega)
   rw[HTL.out] at HHAS;rw[hm] at HIX;generalize v.t.homes[m]=hom at *;generalize rv.r.pts[j]=x at *;generalize (rv.r.pts.take j).filter pp=acc at *;obtain ⟨W6,hW6⟩:∃ W,W=wr.alloc (.cells #[.int .i64 x.el,.int .i64 x.pos] 78):=⟨_,rfl⟩
   have hbe6:Below wr.heap.size wr W6:=by rw[hW6];exact bQ.alloc nL _
   have hbx:Blk W6 wr.heap.size 78 #[.int .i64 x.el,.int .i64 x.pos]:=by rw[hW6];exact Blk.new _ _ _ _ rfl
   have hal6:=z00 hb hb.size hbe6;have hacc6:=hacc.now hbe6;have lx:=hbx.lt;have l0:=(hx0.now hal6).lt;have l1:=(hx1.now hal6).lt;have l2:=(hx2.now hal6).lt;have lh:bh < W6.heap.size:=nT lbh hbe6.size;have zh:=(hbe6.cell (p:=⟨bh,offh+m,none⟩) lbh).trans z0;have hmi:(m:Int) < (v.t.homes.length:Int):=by omega
   rw[hA];have HSS:Hid (∀ W,Below W6.heap.size W6 W→(fun w'=>w'.cell? ⟨w.heap.size,0,none⟩=some (.slice v.A1 v.t.rts.length v.c1)∧w'.cell? ⟨w.heap.size,1,none⟩=some (.slice v.A2 v.t.pts.length v.c2)∧w'.cell? ⟨w.heap.size,2,none⟩=some (.slice (some ⟨bh,offh,none⟩) v.t.homes.length v.c3)∧w'.cell? ⟨w.heap.size,3,none⟩=some (.int .i64 v.t.nsec)∧w'.cell? ⟨w.heap.size,4,none⟩=some (.int .i64 v.t.nsig)∧w'.cell? ⟨w.heap.size+1,5,none⟩=some (.slice (some ⟨bs3,off3,none⟩) rv.r.secs.length rv.c3)∧w'.cell? ⟨w.heap.size+2,1,none⟩=some (.int .i64 (k:Int))∧w'.cell? ⟨wr.heap.size,0,none⟩=some (.int .i64 x.el)∧w'.cell? ⟨bh,offh+m,none⟩=some (.int .i64 hom)∧Below W6.heap.size W6 w') W):=hE fun W h=>⟨(h.cell (p:=⟨w.heap.size,0,none⟩) l0).trans (((hx0.now hal6).cell 0)),(h.cell (p:=⟨w.heap.size,1,none⟩) l0).trans (((hx0.now hal6).cell 1)),(h.cell (p:=⟨w.heap.size,2,none⟩) l0).trans (((hx0.now hal6).cell 2).trans (by unfold z0s;rw[hAh];rfl)),(h.cell (p:=⟨w.heap.size,3,none⟩) l0).trans (((hx0.now hal6).cell 3)),(h.cell (p:=⟨w.heap.size,4,none⟩) l0).trans (((hx0.now hal6).cell 4)),(h.cell (p:=⟨w.heap.size+1,5,none⟩) l1).trans (((hx1.now hal6).cell 5).trans (by unfold z0f;rw[HA3.out];rfl)),(h.cell (p:=⟨w.heap.size+2,1,none⟩) l2).trans ((hx2.now hal6).cell 1),(h.cell (p:=⟨wr.heap.size,0,none⟩) lx).trans (hbx.cell 0),(h.cell (p:=⟨bh,offh+m,none⟩) lh).trans zh,h⟩
   unfold z0s at HIX;rw[hAh] at HIX;clear l0 l1 l2 lh zh lx z0 hAh;go_wp2_with fail
   rw[←hW6];clear hW6 y0 y1;refine rgS 15 HSS fun hHeld=>?_
   refine tkM 10 [0,1,2,3,4,5,6,7,8,9] ?_;refine rd1 10 rfl fun K hK=>?_
   go_simp;go_at_call 60
   refine (HIX.out _ (hbe6.trans (bQ.drew.mono hbe6.size))).mono ?_;rintro e w7 ⟨rfl,hq7⟩;have hq7':Below W6.heap.size W6 w7:=bQ.drew.trans hq7;go_wp2_with fail
   refine hK.out _ _ (HSS.out _ hq7') (fun hHeld=>?_);clear hK K;try simp only[Act.put,lsa,lsz,lss]
   refine tkM 2 [11,12] ?_;refine rd1 13 rfl fun K hK=>?_
   go_simp;go_at_call 106
   refine (HHAS.out _ (hbe6.trans (hq7'.mono hbe6.size))).mono ?_;rintro e w8 ⟨rfl,hq8⟩;have hq8':Below W6.heap.size W6 w8:=z00 hq7' hq7'.size hq8;go_wp2_with fail
   refine hK.out _ _ (HSS.out _ hq8') (fun hHeld=>?_);clear hK K;try simp only[Act.put,lsa,lsz,lss]
   refine tkM 1 [14] ?_;refine wdn ?_
   cases hin:decide (hom∈rv.r.secs.take k) with
   | true=>
    have HX2:Hid ((rv.r.pts.take (j+1)).filter pp=acc):=hE (by rw[HS.out,HQ.out,hin];simp);have hacc8:=hacc6.now hq8';have hal8:=z00 hal6 hal6.size hq8';have hbx8:=hbx.now hq8';clear HSS HIX HHAS hq7 hq7' hq8 hq8' hHeld hbe6 hal6 hacc6 hbx hb hbb hacc;go_wp2_with fail
    go_roundw
    case rel=>
     have hj1:j+1≤rv.r.pts.length:=hltj;refine ⟨j+1,hj1,by go_num,?_,hal8⟩;rw[HX2.out];exact hacc8
    case measure=>simp[intOf];omega
   | false=>
    have HX2:Hid ((rv.r.pts.take (j+1)).filter pp=acc++[x]):=hE (by rw[HS.out,HQ.out,hin];simp);have hacc8:=hacc6.now hq8';have hal8:=z00 hal6 hal6.size hq8';have hbx8:=hbx.now hq8';clear HSS HIX HHAS hq7 hq7' hq8 hq8' hHeld hbe6 hal6 hacc6 hbx hb hbb hacc;have hsz8:=hal8.size;have ub0:=hbx8.cell 0;have ub1:=hbx8.cell 1;have ubl:=hbx8.lt;simp only[gqA,gqZ,gqS] at ub0 ub1;clear hbx8;go_wp2_with (at_builtin;go_loud (refine z0g (c:=z3h) _ rfl _ _ 53 rfl W2.heap.size 78 i0 _ 16 Tryz.underlying53 hi hy0 hy1 hy2 rfl (by decide) _ acc 0 rfl hacc8 [.int .i64 x.el,.int .i64 x.pos] x ⟨rfl,ho⟩ (by intro u hu;simp at hu;rcases hu with rfl | rfl <;> rfl) _ rfl (by omega) (by omega) (by omega) ?_);intro v' w9 hown9 hf9 hs9)
    go_roundw
    case rel=>
     have hj1:j+1≤rv.r.pts.length:=hltj;refine ⟨j+1,hj1,by go_num,?_,hf9.keeps nL hsz8 hal8⟩;rw[HX2.out];exact hown9
    case measure=>simp[intOf];omega
  ·have hji:¬(j:Int) < (rv.r.pts.length:Int):=by omega
   rw[tlL (by omega)] at hacc hal;obtain ⟨A7,c7,hv7⟩:=hacc.form;rw[hv7] at hacc;have hrd7:=hacc.rdn;have hrvb:=hrv.now hbb;obtain ⟨fl,hfl⟩:∃ f,rv.r.pts.filter pp=f:=⟨_,rfl⟩
   rw[hfl] at hacc hrd7 hv7 hal;have HBR:Hid (j8c v.t rv.r ⟨st,(k:Int),tim⟩ = { zR with pts:=fl,opts:=rv.r.opts,flk:=rv.r.flk }):=hE (by unfold j8c;rw[HPL.out,hfl]);let bv:z2t:={ r:={ zR with pts:=fl,opts:=rv.r.opts,flk:=rv.r.flk },A1:=none,A2:=A7,A3:=none,A4:=none,A5:=rv.A5,A6:=none,A7:=rv.A7,A8:=none,A9:=none,c1:=0,c2:=c7,c3:=0,c4:=0,c5:=rv.c5,c6:=0,c7:=rv.c7,c8:=0,c9:=0 }
   have hz:z0p 0:=by constructor <;> simp
   have hbv:RvR wr (Lt wr) bv:=⟨⟨nZ,hz,hz,hz,hz,⟨nZ,nZ⟩,hrd7.1,⟨nZ,nZ⟩,⟨nZ,nZ⟩,hrvb.o.n5,⟨nZ,nZ⟩,hrvb.o.n7,⟨nZ,nZ⟩,⟨nZ,nZ⟩⟩,RdS.nil _ _ _ _,hrd7.2.more (fun b h=>h.2),RdS.nil _ _ _ _,RdS.nil _ _ _ _,hrvb.r5,RdS.nil _ _ _ _,hrvb.r7,RdS.nil _ _ _ _,RdS.nil _ _ _ _⟩
   have HT:=hE (z3t bv wr hbv (by show fl.length≤30000;omega) hS.n5 hS.n7);have y4:=(hx1.now hb).cell 4;have y9:=(hx1.now hb).cell 9;have y11:=(hx1.now hb).cell 11;have ly:=(hx1.now hb).lt;simp only[gqA,gqZ,gqS] at y4 y9 y11;subst hv7;dsimp only [bv] at HT;clear hrd7 hacc hbv;go_wp2_with fail
   refine HT.out.mono ?_;rintro e w9 ⟨A9,c9,rfl,ho9,hq9⟩;have hb9:=z00 hbb hbb.size hq9;have ho99:=ho9.lower hbb.size;clear ho9 hq9 HT y4 y9 y11 ly;have HE:Hid (z1t { zR with pts:=fl,opts:=rv.r.opts,flk:=rv.r.flk } = z5k v.t rv.r ⟨st,(k:Int),tim⟩):=hE (by rw[←HBR.out,←HX.out]);go_wp2_with fail
   go_ret;exact z0y HE.out rfl ho99 hb9
end Go.Proofs.YtpenlfedkacglaaGreatDoor
namespace Go.Proofs.YtpenlfedkacglaaGreatDoor
open Go.RowKit Go.Shelf Go.Lib
attribute [local go_sem] z05 z09 z01 z02
attribute [-go_sem] run_equalIn_agg
attribute [-go_sem] loadCellsFrom
def j9b (e:Ending):Prop:=∃ u pv,e=.panicked [{ v:=.iface u pv,recovered:=false }]
def j8b (r:Option Stg) (e:Ending):Prop:=match r with
 | some s=>e=.returned (.agg #[.int .i64 s.el,.int .i64 s.pos])
 | none=>j9b e
theorem x5z (v:z2t) (f:z0o) (w:World) (E:EnvR w) (hr:RvR w (Lt w) v):Calls Tryz.prog 124 #[.agg (z0f v),.agg #[.int .i64 f.el,.int .i64 f.sd]] w fun e w'=>j8b (y1b v.r f) e∧Below w.heap.size w w':=by
 obtain ⟨W2,hW2⟩:∃ W,W=((w.alloc (.cells (z0f v) 56)).alloc (.cells #[.int .i64 f.el,.int .i64 f.sd] 90)).alloc (.cells #[.int .i64 0,.int .i64 0] 78):=⟨_,rfl⟩
 have hb:Below w.heap.size w W2:=by rw[hW2];exact ((bQ.alloc nL _).alloc (by simp) _).alloc (by simp;omega) _
 have hz:Blk W2 (w.heap.size+1+1) 78 #[.int .i64 0,.int .i64 0]:=by rw[hW2];exact Blk.new _ _ _ _ (by simp)
 have hg:Blk W2 (w.heap.size+1) 90 #[.int .i64 f.el,.int .i64 f.sd]:=by rw[hW2];exact (Blk.new _ _ _ _ (by simp)).alloc _
 have hx:Blk W2 w.heap.size 56 (z0f v):=by rw[hW2];exact ((Blk.new _ _ _ _ rfl).alloc _).alloc _
 have hr2:=hr.now hb;have HN:=hE (y3s 2 f.sd 0 W2 (E.now hb));have HD:=hE fun (x:Stg) W (h:Below W2.heap.size W2 W)=>x3u v x W (hr2.now h)
 have HS:Hid (∀ W,Below W2.heap.size W2 W→W.cell? ⟨w.heap.size+1,0,none⟩=some (.int .i64 f.el)∧W.cell? ⟨w.heap.size+1,1,none⟩=some (.int .i64 f.sd)∧w.heap.size < W.heap.size∧w.heap.size+1 < W.heap.size∧Sem.run Tryz.prog (loadCellsFrom ⟨w.heap.size+1,0,none⟩ 0 2 #[]) W=.ok #[.int .i64 f.el,.int .i64 f.sd] W):=hE fun W h=>⟨(hg.now h).cell 0,(hg.now h).cell 1,(hx.now h).lt,(hg.now h).lt,z04 (hg.now h) 2 rfl⟩
 have HL:Hid (∀ W,Below W2.heap.size W2 W→Sem.run Tryz.prog (loadCellsFrom ⟨w.heap.size,0,none⟩ 0 14 #[]) W=.ok (z0f v) W):=hE fun W h=>z04 (hx.now h) 14 rfl
 have HZ:Hid (∀ W,Below W2.heap.size W2 W→Blk W (w.heap.size+1+1) 78 #[.int .i64 0,.int .i64 0]):=hE fun W h=>hz.now h
 have HA:Hid (y1b v.r f=match z1x 2 f.sd 0 with
  | some p=>if y7i v.r ⟨f.el,p⟩=true then none else some ⟨f.el,3 - p⟩
  | none=>none):=hE rfl
 have hqp:∀ q,z1x 2 f.sd 0=some q→q=1∨q=2∨q=0:=fun q hq=>by
  unfold z1x at hq;rw[Option.map_eq_some_iff] at hq;obtain ⟨p,hp,rfl⟩:=hq;have:=List.mem_of_find?_eq_some hp;simp only[z2f,List.mem_cons,List.not_mem_nil,or_false] at this;rcases this with rfl | rfl | rfl | rfl | rfl | rfl | rfl | rfl | rfl | rfl <;> simp
 clear hx hg hr hr2 hz E;obtain ⟨el,sd⟩:=f;dsimp only at *;obtain ⟨nd,hnd⟩:∃ nd,z1x 2 sd 0=nd:=⟨_,rfl⟩
 rw[hnd] at HN HA hqp;clear hnd;go_enter Tryz.func124,Tryz.ntmps124
 go_wp2_with fail;rw[←hW2];clear hW2;obtain ⟨z0,z1,zl,zk,lk⟩:=HS.out _ bQ;go_wp2_with fail
 refine HN.out.mono ?_;rintro e w3 ⟨rfl,hq3⟩;have hb3:=z00 hb hb.size hq3;clear z0 z1 zl zk lk;obtain ⟨z0,z1,zl,zk,lk⟩:=HS.out _ hq3
 cases nd with
 | none=>
  have HA2:=HA.out;dsimp only at HA2;have HA3:=hE HA2;clear HA2 HA HD HL HZ HN;simp only[Option.getD_none,Option.isSome_none];go_wp2_with fail
  exact ⟨rfl,by rw[HA3.out];exact ⟨_,_,rfl⟩,hb3⟩
 | some q=>
  have HQ:=hE (hqp q rfl);obtain ⟨n,hn⟩:∃ n,y7i v.r ⟨el,q⟩=n:=⟨_,rfl⟩
  have HN2:=HD.out ⟨el,q⟩ w3 hq3;rw[hn] at HN2;have HA2:=HA.out;dsimp only at HA2 HN2;rw[hn] at HA2;have HN2:=hE HN2;have HA3:=hE HA2;clear HA HA2 HD HN hn hqp;have ld:=HL.out _ hq3;simp only[Option.getD_some,Option.isSome_some];go_wp2_with fail
  refine HN2.out.mono ?_;rintro e w4 ⟨rfl,hq4⟩;have hb4:=z00 hb3 hb3.size hq4;have hq4':=z00 hq3 hq3.size hq4;clear z0 z1 zl zk lk ld;obtain ⟨z0,z1,zl,zk,lk⟩:=HS.out _ hq4';cases n
  ·have hzz:=HZ.out _ hq4';have p0:=hzz.cell 0;have p1:=hzz.cell 1;have pl:=hzz.lt;have pf:=hzz.free;obtain ⟨b',h1,h2⟩:∃ b',Frm (w.heap.size+1+1) 78 w4 ((w4.setCell ⟨w.heap.size+1+1,0,none⟩ (.int .i64 el)).setCell ⟨w.heap.size+1+1,1,none⟩ (.int .i64 (3 - q)))∧b' = 0:=⟨0,z0j (w:=w4) [.int .i64 el,.int .i64 (3 - q)] 0 hzz nL,rfl⟩
   have hbX:=h1.keeps (by omega) hb4.size hb4;have hp:Blk ((w4.setCell ⟨w.heap.size+1+1,0,none⟩ (.int .i64 el)).setCell ⟨w.heap.size+1+1,1,none⟩ (.int .i64 (3 - q))) (w.heap.size+1+1) 78 #[.int .i64 el,.int .i64 (3 - q)]:=by
    obtain ⟨cur',h1,h2⟩:=z3y [.int .i64 el,.int .i64 (3 - q)] 0 hzz (by simp);have h3:cur' = #[.int .i64 el,.int .i64 (3 - q)]:=Array.toList_inj.1 h2;rw[h3] at h1;exact h1
   have hq0:q=1∨q=2∨q=0:=HQ.out;have hm1:-9223372036854775808≤3 - q:=by omega
   have hm2:3 - q≤9223372036854775807:=by omega
   have hm:wrap64 (3 - q)=3 - q:=Go.IntWalk.wrap64_in _ ⟨hm1,hm2⟩;clear h1 hzz;go_wp2_with fail
   have ldp:=z04 hp 2 rfl;have pl2:=hp.lt;refine bodyPost_ret (v:=.agg #[.int .i64 el,.int .i64 (3 - q)]) (by simp[results,Tryz.results124,go_sem,ldp,pl2]) rfl ?_;exact ⟨by rw[HA3.out];rfl,hbX⟩
  ·have HA4:y1b v.r ⟨el,sd⟩=none:=by rw[HA3.out];rfl
   have HA4:=hE HA4;go_wp2_with fail
   exact ⟨rfl,by rw[HA4.out];exact ⟨_,_,rfl⟩,hb4⟩
theorem x70 (l:LV) (v:z2t) (w:World) (hl:LvR w l) (hx1:v.r.ext < (l.l.sgs.length:Int)):Calls Tryz.prog 92 #[lvA l,.agg (z0f v)] w fun e w'=>(v.r.ext < 0→e=.returned (.tuple #[.agg #[.string (ByteArray.mk #[]),.int .i64 0,.int .i64 0,.int .i64 0],.bool false]))∧(∀ j (h:j < l.l.sgs.length),v.r.ext=(j:Int)→e=.returned (.tuple #[.agg #[.string (bs l.l.sgs[j].name),.int .i64 l.l.sgs[j].pos.el,.int .i64 l.l.sgs[j].pos.sd,.int .i64 l.l.sgs[j].ovl],.bool true]))∧Below w.heap.size w w':=by
 obtain ⟨W2,hW2⟩:∃ W,W=((w.alloc (.cells (z1b l) 28)).alloc (.cells (z0f v) 56)).alloc (.cells #[.string (ByteArray.mk #[]),.int .i64 0,.int .i64 0,.int .i64 0] 105):=⟨_,rfl⟩
 have hb:Below w.heap.size w W2:=by rw[hW2];exact ((bQ.alloc nL _).alloc (by simp) _).alloc (by simp;omega) _
 have hz:Blk W2 (w.heap.size+1+1) 105 #[.string (ByteArray.mk #[]),.int .i64 0,.int .i64 0,.int .i64 0]:=by rw[hW2];exact Blk.new _ _ _ _ (by simp)
 have hg:Blk W2 (w.heap.size+1) 56 (z0f v):=by rw[hW2];exact (Blk.new _ _ _ _ (by simp)).alloc _
 have hx:Blk W2 w.heap.size 28 (z1b l):=by rw[hW2];exact ((Blk.new _ _ _ _ rfl).alloc _).alloc _
 have x4:=hx.cell 4;have g2:=hg.cell 2;have xl:=hx.lt;have gl:=hg.lt;have zl:=hz.lt;have zf:=hz.free;have z0:=hz.cell 0;have z1:=hz.cell 1;have z2:=hz.cell 2;have z3:=hz.cell 3;simp only[gqA,gqZ,gqS] at x4 g2 z0 z1 z2 z3;have hn4:=hl.n4.1;unfold maxLen at hn4;have hl2:=hl.now hb;have HP:Hid (∀ s:Sgn,Blk (W2.setCells (w.heap.size+1+1) 0 [.string (bs s.name),.int .i64 s.pos.el,.int .i64 s.pos.sd,.int .i64 s.ovl]) (w.heap.size+1+1) 105 #[.string (bs s.name),.int .i64 s.pos.el,.int .i64 s.pos.sd,.int .i64 s.ovl]∧Frm (w.heap.size+1+1) 105 W2 (W2.setCells (w.heap.size+1+1) 0 [.string (bs s.name),.int .i64 s.pos.el,.int .i64 s.pos.sd,.int .i64 s.ovl])):=hE fun s=>⟨by
  obtain ⟨cur',h1,h2⟩:=z3y [.string (bs s.name),.int .i64 s.pos.el,.int .i64 s.pos.sd,.int .i64 s.ovl] 0 hz (by simp);have h3:cur' = #[.string (bs s.name),.int .i64 s.pos.el,.int .i64 s.pos.sd,.int .i64 s.ovl]:=Array.toList_inj.1 h2;rw[h3] at h1;exact h1,z0j (w:=W2) [.string (bs s.name),.int .i64 s.pos.el,.int .i64 s.pos.sd,.int .i64 s.ovl] 0 hz nL⟩
 have HZ:Hid (Blk (W2.setCells (w.heap.size+1+1) 0 [.string (ByteArray.mk #[]),.int .i64 0,.int .i64 0,.int .i64 0]) (w.heap.size+1+1) 105 #[.string (ByteArray.mk #[]),.int .i64 0,.int .i64 0,.int .i64 0]∧Frm (w.heap.size+1+1) 105 W2 (W2.setCells (w.heap.size+1+1) 0 [.string (ByteArray.mk #[]),.int .i64 0,.int .i64 0,.int .i64 0])):=hE ⟨by
  obtain ⟨cur',h1,h2⟩:=z3y [.string (ByteArray.mk #[]),.int .i64 0,.int .i64 0,.int .i64 0] 0 hz (by simp);have h3:cur' = #[.string (ByteArray.mk #[]),.int .i64 0,.int .i64 0,.int .i64 0]:=Array.toList_inj.1 h2;rw[h3] at h1;exact h1,z0j (w:=W2) [.string (ByteArray.mk #[]),.int .i64 0,.int .i64 0,.int .i64 0] 0 hz nL⟩
 have HB:=hE hb;unfold lvA;by_cases h0:v.r.ext < 0
 ·have hd:decide (v.r.ext < 0)=true:=by simp[h0]
  have hnj:∀ j:Nat,v.r.ext≠(j:Int):=fun j h=>by omega
  have HNJ:=hE hnj;clear hnj hx hg hl hl2 hz hb;go_enter Tryz.func92,Tryz.ntmps92
  go_upto_region 1 with (fail)
  rw[←hW2];clear hW2;go_wp2_with fail
  obtain ⟨hp,hf⟩:=HZ.out;have ldp:=z04 hp 4 rfl;have pl2:=hp.lt;simp only[World.setCells] at ldp pl2 hf;refine bodyPost_ret (v:=.tuple #[.agg #[.string (ByteArray.mk #[]),.int .i64 0,.int .i64 0,.int .i64 0],.bool false]) (by simp[results,Tryz.results92,go_sem,ldp,pl2]) rfl ?_;exact ⟨fun _=>rfl,fun j h hj=>absurd hj (HNJ.out j),hf.keeps (by omega) HB.out.size HB.out⟩
 ·obtain ⟨j,hj⟩:∃ j:Nat,v.r.ext=(j:Int):=⟨v.r.ext.toNat,by omega⟩
  have hjl:j < l.l.sgs.length:=by omega
  have hji:(j:Int) < (l.l.sgs.length:Int):=by omega
  obtain ⟨b4,off4,hA4,lb4,ho4,q0,q1,q2,q3⟩:=hl2.r4.x2m hjl;have HS2:Hid (∀ j2 (h:j2 < l.l.sgs.length),(j:Int)=(j2:Int)→l.l.sgs[j2]=l.l.sgs[j]):=hE fun j2 h he=>by
   obtain rfl:j=j2:=by omega
   rfl
  have LS:∀ (i:Nat) (y:Value),[.string (bs l.l.sgs[j].name),.int .i64 l.l.sgs[j].pos.el,.int .i64 l.l.sgs[j].pos.sd,.int .i64 l.l.sgs[j].ovl][i]? = some y→W2.cell? ⟨b4,off4+j*4+i,none⟩=some y:=fun i y hy=>match i,hy with
   | 0,hy=>(sJ hy)▸q0
   | 1,hy=>(sJ hy)▸q1
   | 2,hy=>(sJ hy)▸q2
   | 3,hy=>(sJ hy)▸q3
  have lds:=z2a (b:=b4) (o:=off4+j*4) (n:=4) rfl LS;rw[hA4] at x4;rw[hj] at g2;have HJ:=hE hj;unfold z1b z0f at hW2;rw[hA4,hj] at hW2;have HA4:=hE hA4;generalize hsg:l.l.sgs[j]=sg at *;clear hx hg hl hl2 hz hb LS q0 q1 q2 q3 ho4 HZ h0 hx1 hA4 hsg;unfold z1b z0f;rw[HA4.out,HJ.out];clear hj;go_enter Tryz.func92,Tryz.ntmps92
  go_upto_region 1 with (fail)
  rw[←hW2];clear hW2;go_wp2_with fail
  obtain ⟨hp,hf⟩:=HP.out sg;have ldp:=z04 hp 4 rfl;have pl2:=hp.lt;simp only[World.setCells] at ldp pl2 hf;refine bodyPost_ret (v:=.tuple #[.agg #[.string (bs sg.name),.int .i64 sg.pos.el,.int .i64 sg.pos.sd,.int .i64 sg.ovl],.bool true]) (by simp[results,Tryz.results92,go_sem,ldp,pl2]) rfl ?_;exact ⟨fun h=>absurd h (by omega),fun j2 h hj=>by rw[HS2.out j2 h hj],hf.keeps (by omega) HB.out.size HB.out⟩
end Go.Proofs.YtpenlfedkacglaaGreatDoor
