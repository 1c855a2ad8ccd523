import Derived.Test.YtpenlfedkacglaaGreatDoorL05
import Derived.Test.YtpenlfedkacglaaGreatDoorL06
set_option maxRecDepth 100000
set_option maxHeartbeats 40000000
set_option linter.all false
namespace Go.Proofs.YtpenlfedkacglaaGreatDoor
open Go.RowKit
attribute [local go_sem] z05 z07 z01 z02
attribute [-go_sem] run_equalIn_agg
theorem x61 {l:Lay} {n:Int} {way:List Stp} {k:Nat} (h:k < way.length):z98 l n (way.drop k)=z98 l (if z2w l way[k].el=true then n+z6o l way[k].el else n) (way.drop (k+1)):=by
 rw[List.drop_eq_getElem_cons h];rfl
theorem y9w (v:LV) (hk:z9a v.l) (way:List Stp) (A:Option Addr) (cap:Nat) (w:World) (hr:LvR w v) (hw:RdS z1h w (Lt w) A way) (hl:way.length≤1000):Calls Tryz.prog 93 #[lvA v,.slice A way.length cap] w fun e w'=>e=.returned (.int .i64 (z1i v.l way))∧Below w.heap.size w w':=by
 have hbx:=Lx.new hr;have HK:=hE hk;have hn:=hr.n2.1;unfold maxLen at hn;unfold lvA;clear hk;go_enter Tryz.func93,Tryz.ntmps93
 go_wp2_with fail;go_loopw [5,10] (fun a i wr=>∃ (k:Nat) (n:Int),k≤way.length∧i=.int .i64 k∧a=.int .i64 n∧Lx w wr v∧(0≤n∧n≤1000000*k)∧Hid (z98 v.l n (way.drop k)=z1i v.l way)) (fun _ i _=>way.length - (intOf i).toNat)
 case atStart=>exact ⟨0,0,nZ,rfl,rfl,hbx,⟨by omega,by omega⟩,hE rfl⟩
 case round=>
  obtain ⟨k,n,hkl,rfl,rfl,hb,hnb,HR⟩:=hrel;clear hbx;by_cases hlt:k < way.length
  ·have hki:(k:Int) < (way.length:Int):=by omega
   obtain ⟨b,off,hA,lb,ho,y0,y1,y2⟩:=(hw.now hb.bel).elT hlt;have HS:=hE (x61 (l:=v.l) (n:=n) hlt);have hb1:=hb.alloc (.cells #[.int .i64 way[k].el,.int .i64 way[k].inn,.int .i64 way[k].out] 85);rw[hA];clear hA ho;generalize way[k]=s at *;obtain ⟨el,inn,out⟩:=s;dsimp only at *;obtain ⟨W1,hW1⟩:∃ W,W=wr.alloc (.cells #[.int .i64 el,.int .i64 inn,.int .i64 out] 85):=⟨_,rfl⟩
   have hs1:Blk W1 wr.heap.size 85 #[.int .i64 el,.int .i64 inn,.int .i64 out]:=by rw[hW1];exact Blk.new _ _ _ _ rfl
   rw[←hW1] at hb1;have g0:=hb.x0;have g1:=hb.x1;have g2:=hb.x2;have g3:=hb.x3;have g4:=hb.x4;have g5:=hb.x5;have lg:=hb.lt
   cases he:z2w v.l el with
   | false=>
    have HX:Hid (z98 v.l n (way.drop (k+1))=z1i v.l way):=hE (by rw[←HR.out,HS.out,he];rfl);have HE:=hE (z4n v el he W1 hb1.rd);clear HS HR he;go_wp2_with fail
    rw[←hW1];refine HE.out.mono ?_;rintro e w3 ⟨rfl,hq⟩;have hb3:=hb1.now hq;clear hW1 g0 g1 g2 g3 g4 g5 lg y0 y1 y2;go_wp2_with fail
    go_roundw
    case rel=>exact ⟨k+1,n,by omega,by go_num,rfl,hb3,⟨hnb.1,by omega⟩,HX⟩
    case measure=>simp[intOf];omega
   | true=>
    have hlk:=HK.out.el _ he;have hlx:500≤z6o v.l el∧z6o v.l el≤1000000:=⟨hlk.2.1,hlk.2.2.1⟩
    have HX:Hid (z98 v.l (n+z6o v.l el) (way.drop (k+1))=z1i v.l way):=hE (by rw[←HR.out,HS.out,he];rfl);obtain ⟨m,rfl,hmlt⟩:=z5a he;have HE:=hE (z4n v m he W1 hb1.rd);rw[x8e hmlt] at hlx HX;clear HS HR he hlk;go_wp2_with fail
    rw[←hW1];refine HE.out.mono ?_;rintro e w3 ⟨rfl,hq⟩;have hb3:=hb1.now hq;have hs3:=hs1.now hq;obtain ⟨b2,off2,hA2,lb2,ho2,q0,q1,q2,q3,q4,q5,q6⟩:=hb3.rd.r2.elE hmlt;have x2:=hb3.x2;rw[hA2] at x2;have z0:=hs3.cell 0;simp only[gqA,gqZ,gqS] at z0;have hmi:(m:Int) < (v.l.els.length:Int):=by omega
    clear hA2 hW1 g0 g1 g2 g3 g4 g5 lg y0 y1 y2 q0 q1 q3 q4 q5 q6 ho2 hs1 hs3 hb hb1 hq HE;generalize v.l.els[m].len=len at *;have hwrap:IntKind.i64.wrap (n+len)=n+len:=IntWalk.i64_in _ (by omega);go_wp2_with fail
    go_roundw
    case rel=>exact ⟨k+1,n+len,by omega,by go_num,by first | rfl | (rw[hwrap]),hb3,⟨by omega,by omega⟩,HX⟩
    case measure=>simp[intOf];omega
  ·have HX:Hid (n=z1i v.l way):=hE (by rw[←HR.out,List.drop_of_length_le (by omega)];rfl);have hbb:=hb.bel;go_wp2_with fail
   go_ret;exact ⟨z0i HX.out,hbb⟩
theorem z8w.frm {P:Program} {k e:TypeId} {w w':World} {b n base:Nat} {T:TypeId} {ks:List Lit} (h:z8w P k e w b n ks) (hf:Frm base T w w'):z8w P k e w' b n ks:=by
 obtain ⟨⟨es,ck,h1,h2⟩,h3⟩:=h;exact ⟨⟨es,ck,hf.obj b _ h1 (fun cs fr hx=>by cases hx),h2⟩,h3⟩
theorem z09.map {α:Type} {c:Cod α} {P:Program} {k e:TypeId} {w w':World} {base b n:Nat} {T:TypeId} {v:Value} {l:List α} {ks:List Lit} (h:z09 c w base T v l 0) (hm:z8w P k e w b n ks) (hg:w.grownBy w' (some b)):z09 c w' base T v l 0:=by
 obtain ⟨xs,h1,h2,h3⟩:=h;obtain ⟨⟨es,ck,hmb,_⟩,_⟩:=hm;refine ⟨xs,⟨h1.1,?_⟩,(h2.keep fun p hp=>absurd hp.1 (Nat.not_lt_zero _)).more fun b hb=>absurd hb.1 (Nat.not_lt_zero _),nZ⟩;rcases h1.2 with h | ⟨g,cap,cur,hv,hb,hgk,h4⟩
 ·exact Or.inl h
 ·refine Or.inr ⟨g,cap,cur,hv,hb,(hg.block g (z0j hgk) ?_).trans hgk,h4⟩;intro he;obtain rfl:g=b:=sJ he;rw[hgk] at hmb;cases hmb
theorem Lx.frm {w0 w w':World} {v:LV} {T:TypeId} (h:Lx w0 w v) (hr:LvR w0 v) (hf:Frm w0.heap.size T w w') (hT:28≠T):Lx w0 w' v:=
 have hb:=hf.keeps nL h.bel.size h.bel
 ⟨hb,hf.blk h.blk hT,hr.now hb⟩
theorem x5j {l:Lay} {acc:List Int} {way:List Stp} {k:Nat} (h:k < way.length):z7b l acc (way.drop k)=z7b l (if z2w l way[k].el=true∧z0d l way[k].el∉acc then acc++[z0d l way[k].el] else acc) (way.drop (k+1)):=by
 rw[List.drop_eq_getElem_cons h];rfl
theorem x5i {l:Lay} {n:Nat} (h:n < l.els.length):z0d l (n:Int)=l.els[n].sec:=y9n h
theorem z8u (v:LV) (way:List Stp) (A:Option Addr) (cap:Nat) (w:World) (hr:LvR w v) (hw:RdS z1h w (Lt w) A way) (hl:way.length≤1000):Calls Tryz.prog 49 #[lvA v,.slice A way.length cap] w (y35 cI 3 w (z0y v.l way)):=by
 obtain ⟨i0,hi,hz0,hz1,hz2⟩:=info_parts z3f;have hmm:=@run_makeMap Tryz.prog;have hn:=hr.n2.1;unfold maxLen at hn;unfold lvA;obtain ⟨W0,hW0⟩:∃ W,W=(w.alloc (.cells (z1c v) 28)).alloc (.map #[] 0):=⟨_,rfl⟩
 obtain ⟨B,hB⟩:∃ B,B=w.heap.size+1:=⟨_,rfl⟩
 have hbx:Lx w W0 v:=by rw[hW0];exact (Lx.new hr).alloc _
 have hset:z8w Tryz.prog 3 4 W0 B 0 []:=by rw[hW0,hB];exact z8w.made _ _ _ _ _ (by simp)
 have hBg:w.heap.size < B:=by omega
 go_enter Tryz.func49,Tryz.ntmps49
 go_wp2_with fail;rw[←hW0,←hB];clear hmm hW0 hB;go_loopw [5,13] (fun a i wr=>∃ (k:Nat) (acc:List Int),k≤way.length∧i=.int .i64 k∧z09 cI wr w.heap.size 3 a acc 0∧Lx w wr v∧z8w Tryz.prog 3 4 wr B acc.length (acc.map (Lit.int .i64))∧acc.length≤k∧Hid (z7b v.l acc (way.drop k)=z0y v.l way)) (fun _ i _=>way.length - (intOf i).toNat)
 case atStart=>exact ⟨0,[],nZ,rfl,z09.nil _ _ _ _ nZ,hbx,hset,nZ,hE rfl⟩
 case round=>
  obtain ⟨k,acc,hkl,rfl,hown,hb,hst,hacc,HR⟩:=hrel;clear hbx hset;by_cases hlt:k < way.length
  ·have hki:(k:Int) < (way.length:Int):=by omega
   obtain ⟨b,off,hA,lb,ho,y0,y1,y2⟩:=(hw.now hb.bel).elT hlt;have HS:=hE (x5j (l:=v.l) (acc:=acc) hlt);have hal:Below wr.heap.size wr (wr.alloc (.cells #[.int .i64 way[k].el,.int .i64 way[k].inn,.int .i64 way[k].out] 85)):=bQ.alloc nL _;rw[hA];clear hA ho;generalize way[k]=s at *;obtain ⟨el,inn,out⟩:=s;dsimp only at *;obtain ⟨W1,hW1⟩:∃ W,W=wr.alloc (.cells #[.int .i64 el,.int .i64 inn,.int .i64 out] 85):=⟨_,rfl⟩
   have hs1:Blk W1 wr.heap.size 85 #[.int .i64 el,.int .i64 inn,.int .i64 out]:=by rw[hW1];exact Blk.new _ _ _ _ rfl
   rw[←hW1] at hal;have hb1:=hb.now hal;have g0:=hb.x0;have g1:=hb.x1;have g2:=hb.x2;have g3:=hb.x3;have g4:=hb.x4;have g5:=hb.x5;have lg:=hb.lt
   cases he:z2w v.l el with
   | false=>
    have HX:Hid (z7b v.l acc (way.drop (k+1))=z0y v.l way):=hE (by rw[←HR.out,HS.out,if_neg (by rw[he];simp)]);have HE:=hE (z4n v el he W1 hb1.rd);clear HS HR he;go_wp2_with fail
    rw[←hW1];refine HE.out.mono ?_;rintro e w3 ⟨rfl,hq⟩;have hb3:=hb1.now hq;have hst3:=(hst.now hal).now hq;have hown3:=(hown.now hal).now hq;clear hW1 g0 g1 g2 g3 g4 g5 lg y0 y1 y2 hown hst;go_wp2_with fail
    go_roundw
    case rel=>exact ⟨k+1,acc,by omega,by go_num,hown3,hb3,hst3,by omega,HX⟩
    case measure=>simp[intOf];omega
   | true=>
    obtain ⟨m,rfl,hmlt⟩:=z5a he;have HE:=hE (z4n v m he W1 hb1.rd);have HSM:=hE (x5i hmlt);have HHE:=hE he;clear he;go_wp2_with fail
    rw[←hW1];refine HE.out.mono ?_;rintro e w3 ⟨rfl,hq⟩;have hb3:=hb1.now hq;have hs3:=hs1.now hq;have hst3:=(hst.now hal).now hq;have hown3:=(hown.now hal).now hq;have hsz3:=hb3.bel.size;obtain ⟨b2,off2,hA2,lb2,ho2,q0,q1,q2,q3,q4,q5,q6⟩:=hb3.rd.r2.elE hmlt;have x2:=hb3.x2;rw[hA2] at x2;have z0:=hs3.cell 0;simp only[gqA,gqZ,gqS] at z0;have hmi:(m:Int) < (v.l.els.length:Int):=by omega
    have hI:z0p v.l.els[m].sec:=ho2.2.2.2.2.2.2;rw[HSM.out] at HS;clear hA2 hW1 g0 g1 g2 g3 g4 g5 lg y0 y1 y2 q0 q1 q2 q3 q4 q5 ho2 hs1 hs3 hb hb1 hq HE hown hst hal HSM;generalize v.l.els[m].sec=sc at *;have hkey:=hE (x3q sc hI);have hany:=any_int acc sc;have HI:=hE hI
    cases hd:decide (sc∈acc) with
    | true=>
     have HX:Hid (z7b v.l acc (way.drop (k+1))=z0y v.l way):=hE (by rw[←HR.out,HS.out,if_neg (fun h=>h.2 (oDt hd))]);have HAN:=hE (hany.trans hd);have HST:=hE hst3;clear hd hany HS HR hI;obtain ⟨ks,hks⟩:∃ x,x=acc.map (Lit.int .i64):=⟨_,rfl⟩
     rw[←hks] at hst3 HAN;have HKE:=hE hks;clear hks;go_wp2_with (at_lookup;go_loud (refine z0u _ rfl _ _ 165 rfl 3 4 y2h Tryz.underlying165 Tryz.underlying4 (z4o _) B acc.length ks rfl hst3 _ _ rfl hkey.out true HAN.out ?_))
     go_roundw
     case rel=>exact ⟨k+1,acc,by omega,by go_num,hown3,hb3,by rw[←HKE.out];exact hst3,by omega,HX⟩
     case measure=>simp[intOf];omega
    | false=>
     have HX:Hid (z7b v.l (acc++[sc]) (way.drop (k+1))=z0y v.l way):=hE (by rw[←HR.out,HS.out,if_pos ⟨HHE.out,of_decide_eq_false hd⟩]);have HAN:=hE (hany.trans hd);have HKS:Hid ((acc++[sc]).map (Lit.int .i64)=acc.map (Lit.int .i64)++[.int .i64 sc]):=hE (by simp);clear hd hany HS HR hI;generalize acc.map (Lit.int .i64)=ks at *;go_wp2_with (first | (at_lookup;go_loud (refine z0u _ rfl _ _ 165 rfl 3 4 y2h Tryz.underlying165 Tryz.underlying4 (z4o _) B acc.length ks rfl hst3 _ _ rfl hkey.out false HAN.out ?_)) | (at_mapUpdate;go_loud (refine z3g _ rfl _ _ _ 165 rfl 3 4 y2h Tryz.underlying165 Tryz.underlying4 B acc.length ks rfl hst3 (by unfold maxLen;omega) _ _ rfl rfl hkey.out ?_);intro w6 hst6 hgr6;have hown6:=hown3.map hst3 hgr6;have hb6:=hb3.grown hr hgr6 hBg;have hsz6:=hb6.bel.size) | (at_builtin;go_loud (refine z0h (c:=cI) _ rfl _ _ 31 rfl w.heap.size 3 i0 (.int .i64 0) 8 Tryz.underlying31 hi hz0 hz1 hz2 rfl (by decide) _ acc 0 rfl hown6 [.int .i64 sc] sc ⟨rfl,HI.out⟩ (by intro u hu;simp at hu;subst hu;rfl) _ rfl (by omega) (by omega) (by omega) ?_);intro v' w7 hown7 hf7 hs7))
     go_roundw
     case rel=>exact ⟨k+1,acc++[sc],by omega,by go_num,hown7,hb6.frm hr hf7 (by decide),by rw[HKS.out,qL];exact hst6.frm hf7,by simp;omega,HX⟩
     case measure=>simp[intOf];omega
  ·have HX:Hid (acc=z0y v.l way):=hE (by rw[←HR.out,List.drop_of_length_le (by omega)];rfl);have HO:=hE hown;obtain ⟨A',c',hv⟩:=hown.form;have hbb:=hb.bel;clear hown hb hst;subst hv;go_wp2_with fail
   go_ret;exact z0x HX.out rfl HO.out hbb
theorem x8a {k i:Int}:∀ x∈z6x k i,z0p x:=by
 intro x hx;unfold z6x at hx;obtain ⟨p,hp,rfl⟩:=List.mem_map.1 hx;have hp:=(List.mem_filter.1 hp).1;have:∀ q∈z2i,0≤q.2.2.1∧q.2.2.1≤3:=by decide
 have:=this p hp;exact ⟨by omega,by omega⟩
theorem x8c (k i:Int):(z6x k i).length≤10:=x3y k i 10
theorem j8r {k i:Int} {r:List Int} (h:z6x k i=r) (w:World) (E:EnvR w):Calls Tryz.prog 125 #[.int .i64 k,.int .i64 i] w (y35 cI 3 w r):=h▸y8v k i w E
theorem z09.rdn {α:Type} {c:Cod α} {w:World} {base:Nat} {T:TypeId} {A:Option Addr} {cap:Nat} {l:List α} (h:z09 c w base T (.slice A l.length cap) l 0):(l.length≤maxLen∧l.length≤cap)∧RdS c w (fun b=>base≤b∧b < w.heap.size) A l:=by
 obtain ⟨xs,h1,h2,h3⟩:=h;rcases h1.2 with ⟨hv,h0⟩ | ⟨g,cap',cur,hv,hb,hg,hcap,hm,htake⟩
 ·simp only[Value.slice.injEq] at hv;obtain ⟨rfl,hl,rfl⟩:=hv;have:l=[]:=List.eq_nil_of_length_eq_zero (by omega);subst this;exact ⟨⟨nZ,nL⟩,fun hl=>absurd hl (Nat.lt_irrefl _)⟩
 ·simp only[Value.slice.injEq] at hv;obtain ⟨rfl,-,rfl⟩:=hv;refine ⟨⟨nR hcap hm,hcap⟩,fun _=>⟨g,0,rfl,⟨hb,z0j hg⟩,fun i x hx=>?_⟩⟩;obtain ⟨ys,h4,h5⟩:=h2.get hx;refine ⟨ys,c.more h4 fun b hb=>absurd hb.1 (Nat.not_lt_zero _),fun j u hu=>?_⟩;have h6:=h5 j u hu;rw[Nat.zero_add,cell_of_row w g _ cur T (0,0) hg];rw[←htake.2,List.getElem?_take] at h6;split at h6
  ·simpa using h6
  ·cases h6
theorem z3d:(Tryz.prog.info? 85).map (fun i=>(i.zero,i.size,i.bytes))=some (some (.agg #[.int .i64 0,.int .i64 0,.int .i64 0]),3,24):=by kernel_rfl
theorem z8o (v:LV) (e:z0o) (he64:z0p e.el∧z0p e.sd) (w:World) (E:EnvR w) (hr:LvR w v):Calls Tryz.prog 96 #[lvA v,.agg #[.int .i64 e.el,.int .i64 e.sd]] w (y35 z1h 85 w (brF v.l e)):=by
 obtain ⟨i0,hi,hz0,hz1,hz2⟩:=info_parts z3d;obtain ⟨el,sd⟩:=e;dsimp only at *;obtain ⟨W2,hW2⟩:∃ W,W=(w.alloc (.cells (z1c v) 28)).alloc (.cells #[.int .i64 el,.int .i64 sd] 90):=⟨_,rfl⟩
 have hbx:Lx w W2 v:=by rw[hW2];exact (Lx.new hr).alloc _
 have hx1:Blk W2 (w.heap.size+1) 90 #[.int .i64 el,.int .i64 sd]:=by rw[hW2];exact Blk.new _ _ _ _ (by simp)
 have hn:=hr.n2.1;unfold maxLen at hn;unfold lvA
 cases he:z2w v.l el with
 | false=>
  have HX:Hid ([]=brF v.l ⟨el,sd⟩):=hE (by unfold brF;dsimp only;rw[he];rfl);have HE:=hE (z4n v el he W2 hbx.rd);clear he;go_enter Tryz.func96,Tryz.ntmps96
  go_wp2_with fail;rw[←hW2];refine HE.out.mono ?_;rintro e w3 ⟨rfl,hq⟩;have hb3:=z00 hbx.bel hbx.bel.size hq;clear hW2;go_wp2_with fail
  go_ret
  exact z0x HX.out rfl (z09.nil _ _ _ _ nZ) hb3
 | true=>
  obtain ⟨n,rfl,hlt⟩:=z5a he;have HE:=hE (z4n v n he W2 hbx.rd);obtain ⟨r,hr2⟩:∃ r,z6x v.l.els[n].kind sd=r:=⟨_,rfl⟩
  have HX:Hid (r.map (fun o=>(⟨(n:Int),sd,o⟩:Stp))=brF v.l ⟨(n:Int),sd⟩):=hE (by unfold brF;dsimp only;rw[he,if_pos rfl,z5q hlt,hr2]);have HN:=hE fun W E=>j8r hr2 W E
  have HI:Hid (∀ x∈r,z0p x):=hE (by rw[←hr2];exact x8a);have hrl:r.length≤10:=by rw[←hr2];exact x8c _ _
  go_enter Tryz.func96,Tryz.ntmps96
  go_wp2_with fail;rw[←hW2];refine HE.out.mono ?_;rintro e w3 ⟨rfl,hq⟩;have hb3:=hbx.now hq;have hx3:=hx1.now hq;obtain ⟨b,off,hA,lb,ho,y0,y1,y2,y3,y4,y5,y6⟩:=hb3.rd.r2.elE hlt;have E3:=E.now hb3.bel;have hbb:=hb3.bel;have x2:=hb3.x2;rw[hA] at x2;have z0:=hx3.cell 0;have z1:=hx3.cell 1;have lz:=hx3.lt;have hz3:=hx3;simp only[gqA,gqZ,gqS] at z0 z1;have lb':b < w3.heap.size:=lb;have hki:(n:Int) < (v.l.els.length:Int):=by omega
  clear hA hW2 hbx hx1 hb3 hx3 HE hq y0 y2 y3 y4 y5 y6 ho he E hr2;generalize v.l.els[n].kind=kd at *;go_upto_region 4 with (fail)
  have HSS:Hid (∀ W,Below w3.heap.size w3 W→(fun w'=>w'.cell? ⟨w.heap.size,2,none⟩=some (.slice (some ⟨b,off,none⟩) v.l.els.length v.c2)∧w'.cell? ⟨w.heap.size+1,0,none⟩=some (.int .i64 n)∧w'.cell? ⟨w.heap.size+1,1,none⟩=some (.int .i64 sd)∧w'.cell? ⟨b,off+n*7+1,none⟩=some (.int .i64 kd)∧Below w3.heap.size w3 w') W):=hE fun W h=>⟨(h.cell (p:=⟨w.heap.size,2,none⟩) (show w.heap.size < w3.heap.size by omega)).trans x2,(h.cell (p:=⟨w.heap.size+1,0,none⟩) lz).trans z0,(h.cell (p:=⟨w.heap.size+1,1,none⟩) lz).trans z1,(h.cell (p:=⟨b,off+n*7+1,none⟩) lb').trans y1,h⟩
  clear x2 z0 z1 y1;refine rgS 12 HSS fun hHeld=>?_
  refine tkM 10 [0,1,2,3,4,5,6,7,8,11] ?_;refine rd1 9 rfl fun K hK=>?_
  go_simp;go_at_call 125
  refine (HN.out _ (E3.now bQ.drew)).mono ?_;rintro e wq ⟨A5,c5,rfl,hown5,hqq⟩;have hbq:Below w3.heap.size w3 wq:=bQ.drew.trans hqq;have hrd:=(hown5.rdn).2;go_wp2_with fail
  refine hK.out _ _ (HSS.out _ hbq) (fun hHeld=>?_);clear hK K;try simp only[Act.put,lsa,lsz,lss]
  refine tkM 1 [10] ?_;refine wdn ?_;have hbz:=z00 hbb hbb.size hbq;have hz5:=hz3.now hbq;have hrl5:=hown5.rdn.1;have hwz:w.heap.size≤wq.heap.size:=hbz.size;have hro:RdS cI wq (fun b=>w3.heap.size≤b∧b < wq.heap.size) A5 r:=hrd;have hs5:w3.heap.size≤wq.heap.size:=hbq.size;clear HSS hHeld hbq hown5 hrd hz3;go_wp2_with fail
  go_loopw [5,24] (fun a i wr=>∃ k:Nat,k≤r.length∧i=.int .i64 k∧z09 z1h wr wq.heap.size 85 a ((r.take k).map fun o=>(⟨(n:Int),sd,o⟩:Stp)) 0∧Below wq.heap.size wq wr) (fun _ i _=>r.length - (intOf i).toNat)
  case atStart=>exact ⟨0,nZ,rfl,z09.nil _ _ _ _ nZ,bQ⟩
  case round=>
   obtain ⟨k,hk,rfl,hown,hb⟩:=hrel;have hsz:=hb.size;by_cases hlt2:k < r.length
   ·have hki2:(k:Int) < (r.length:Int):=by omega
    obtain ⟨b3,off3,hA3,lb3,ho3,q0⟩:=(hro.keep fun p hp=>hb.cell hp.2).elI hlt2;have HT:Hid ((r.take (k+1)).map (fun o=>(⟨(n:Int),sd,o⟩:Stp))=(r.take k).map (fun o=>(⟨(n:Int),sd,o⟩:Stp))++[⟨(n:Int),sd,r[k]⟩]):=hE (map_take _ hlt2);have hkl:((r.take k).map fun o=>(⟨(n:Int),sd,o⟩:Stp)).length≤10:=by simp;omega
    have hz6:=hz5.now hb;have z0:=hz6.cell 0;have z1:=hz6.cell 1;simp only[gqA,gqZ,gqS] at z0 z1;have HO:Hid (z0p (n:Int)∧z0p sd∧z0p r[k]):=hE ⟨he64.1,he64.2,ho3⟩;rw[hA3];clear hA3 ho3 hz6;generalize r[k]=x at *;generalize (r.take k).map (fun o=>(⟨(n:Int),sd,o⟩:Stp))=acc at *;go_wp2_with (at_builtin;go_loud (refine z0h (c:=z1h) _ rfl _ _ 52 rfl wq.heap.size 85 i0 _ 24 Tryz.underlying52 hi hz0 hz1 hz2 rfl (by decide) _ acc 0 rfl hown [.int .i64 n,.int .i64 sd,.int .i64 x] ⟨(n:Int),sd,x⟩ ⟨rfl,HO.out⟩ (by intro u hu;simp at hu;rcases hu with rfl | rfl | rfl <;> rfl) _ rfl (by omega) (by omega) (by omega) ?_);intro v' w7 hown7 hf7 hs7)
    go_roundw
    case rel=>exact ⟨k+1,by omega,by go_num,by rw[HT.out];exact hown7,hf7.keeps nL hsz hb⟩
    case measure=>simp[intOf];omega
   ·have HY:Hid ((r.take k).map (fun o=>(⟨(n:Int),sd,o⟩:Stp))=brF v.l ⟨(n:Int),sd⟩):=hE (by rw[tlL (by omega)];exact HX.out);have hbe:=z00 hbz hwz hb;obtain ⟨A',c',hv⟩:=hown.form;have HO:=hE (hown.lower hwz);clear hown;generalize (r.take k).map (fun o=>(⟨(n:Int),sd,o⟩:Stp))=acc at *;subst hv;go_wp2_with fail
    go_ret;exact z0x HY.out rfl HO.out hbe
theorem y2j (r:Option z0o):∃ a b c,z6w r=.tuple #[.agg #[.int .i64 a,.int .i64 b],.bool c]:=⟨_,_,_,rfl⟩
theorem j8q {l:List Jnt} {r:Option z0o} (v:LV) (x:z0o) (hv:v.l.jts=l) (h:z03 l x=r) (w:World) (hr:LvR w v):Calls Tryz.prog 79 #[.agg (z1c v),.agg #[.int .i64 x.el,.int .i64 x.sd]] w fun e w'=>e=.returned (z6w r)∧Below w.heap.size w w':=by
 subst hv h;exact z6g v x w hr
theorem y60 (v:LV) (s:Stp) (g:Nat) (w:World) (hr:LvR w v) (hg:Blk w g 28 (z1c v)):Calls Tryz.prog 163 #[.agg #[.int .i64 s.el,.int .i64 s.inn,.int .i64 s.out],.pointer (some ⟨g,0,none⟩)] w fun e w'=>e=.returned (z6w (z7m v.l s))∧Below w.heap.size w w':=by
 obtain ⟨el,inn,out⟩:=s;dsimp only;obtain ⟨r,hr2⟩:∃ r,z7m v.l ⟨el,inn,out⟩=r:=⟨_,rfl⟩
 obtain ⟨W2,hW2⟩:∃ W,W=(w.alloc (.cells #[.int .i64 el,.int .i64 inn,.int .i64 out] 85)).alloc (.cells #[.int .i64 0,.int .i64 0] 90):=⟨_,rfl⟩
 have hB2:Below w.heap.size w W2:=by rw[hW2];exact (bQ.alloc nL _).alloc (by simp) _
 have hz1:Blk W2 (w.heap.size+1) 90 #[.int .i64 0,.int .i64 0]:=by rw[hW2];exact Blk.new _ _ _ _ (by simp)
 have HJ:=hE (j8q v ⟨el,out⟩ rfl hr2 W2 (hr.now hB2));have x0:=hg.cell 0;have x1:=hg.cell 1;have x2:=hg.cell 2;have x3:=hg.cell 3;have x4:=hg.cell 4;have x5:=hg.cell 5;have lg:=hg.lt;simp only[gqA,gqZ,gqS] at x0 x1 x2 x3 x4 x5;rw[hr2];clear hr2 hr hg;dsimp only at HJ;go_enter Tryz.func163,Tryz.ntmps163
 go_wp2_with fail;rw[←hW2];refine HJ.out.mono ?_;rintro e w3 ⟨rfl,hq⟩;have hb3:=z00 hB2 hB2.size hq;have hz3:=hz1.now hq;have q0:=hz3.cell 0;have q1:=hz3.cell 1;have qf:=hz3.free;have hsz:=hz3.lt;simp only[gqA,gqZ,gqS] at q0 q1;clear hW2 x0 x1 x2 x3 x4 x5 hz3 hz1 HJ hq hB2;obtain ⟨a,b,c,hjv⟩:=y2j r;rw[hjv];have HX:=hE hjv;clear hjv;go_wp2_with fail
 exact bodyPost_ret (v:=.tuple #[.agg #[.int .i64 a,.int .i64 b],.bool c]) (by simp[results,Tryz.results163,go_sem,q0,q1,hsz]) rfl ⟨by rw[HX.out],blz⟩
theorem y7w (v:LV) (w:World) (hr:LvR w v):Calls Tryz.prog 147 #[.agg (z1c v)] w fun e w'=>e=.returned (.func (.func 163) #[] #[.pointer (some ⟨w.heap.size,0,none⟩)])∧w' = w.alloc (.cells (z1c v) 28):=by
 have hmf:∀ (fn:Fn) (first cap:Array Value) (w:World),(Instr.makeFunc fn first cap).run Tryz.prog w=.ok (.func fn first cap) w:=fun _ _ _ _=>rfl
 go_enter Tryz.func147,Tryz.ntmps147
 go_wp2_with fail;go_ret
 exact ⟨rfl,rfl⟩
theorem next_any (v:LV) (s:Stp) (w:World) (hr:LvR w v):Calls Tryz.prog 97 #[lvA v,.agg #[.int .i64 s.el,.int .i64 s.inn,.int .i64 s.out]] w fun e w'=>e=.returned (z6w (z7m v.l s))∧Below w.heap.size w w':=by
 obtain ⟨W2,hW2⟩:∃ W,W=((w.alloc (.cells (z1c v) 28)).alloc (.cells #[.int .i64 s.el,.int .i64 s.inn,.int .i64 s.out] 85)).alloc (.cells #[.int .i64 0,.int .i64 0] 90):=⟨_,rfl⟩
 have hbx:Lx w W2 v:=by rw[hW2];exact ((Lx.new hr).alloc _).alloc _
 have hx1:Blk W2 (w.heap.size+1) 85 #[.int .i64 s.el,.int .i64 s.inn,.int .i64 s.out]:=by rw[hW2];exact (Blk.new _ _ _ _ (by simp)).alloc _
 have hz1:Blk W2 (w.heap.size+1+1) 90 #[.int .i64 0,.int .i64 0]:=by rw[hW2];exact Blk.new _ _ _ _ (by simp)
 have HP1:=hE fun W h g hg=>y60 v s g W h hg
 have HPA:=hE fun W h=>y7w v W h
 obtain ⟨r,hr2⟩:∃ r,z7m v.l s=r:=⟨_,rfl⟩
 rw[hr2] at HP1 ⊢;clear hr2;unfold lvA;go_enter Tryz.func97,Tryz.ntmps97
 go_wp2_with fail;rw[←hW2];have x0:=hbx.x0;have x1:=hbx.x1;have x2:=hbx.x2;have x3:=hbx.x3;have x4:=hbx.x4;have x5:=hbx.x5;have z0:=hx1.cell 0;have z1:=hx1.cell 1;have z2:=hx1.cell 2;simp only[gqA,gqZ,gqS] at z0 z1 z2;have HSS:Hid (∀ W,Below (w.heap.size+1+1) W2 W→(fun w'=>w'.cell? ⟨w.heap.size,0,none⟩=some (.string (bs v.l.name))∧w'.cell? ⟨w.heap.size,1,none⟩=some (.slice v.A1 v.l.secs.length v.c1)∧w'.cell? ⟨w.heap.size,2,none⟩=some (.slice v.A2 v.l.els.length v.c2)∧w'.cell? ⟨w.heap.size,3,none⟩=some (.slice v.A3 v.l.jts.length v.c3)∧w'.cell? ⟨w.heap.size,4,none⟩=some (.slice v.A4 v.l.sgs.length v.c4)∧w'.cell? ⟨w.heap.size,5,none⟩=some (.slice v.A5 v.l.bls.length v.c5)∧w'.cell? ⟨w.heap.size+1,0,none⟩=some (.int .i64 s.el)∧w'.cell? ⟨w.heap.size+1,1,none⟩=some (.int .i64 s.inn)∧w'.cell? ⟨w.heap.size+1,2,none⟩=some (.int .i64 s.out)∧Below (w.heap.size+1+1) W2 w') W):=hE fun W h=>⟨(h.cell (p:=⟨w.heap.size,0,none⟩) (show w.heap.size < w.heap.size+1+1 by omega)).trans x0,(h.cell (p:=⟨w.heap.size,1,none⟩) (show w.heap.size < w.heap.size+1+1 by omega)).trans x1,(h.cell (p:=⟨w.heap.size,2,none⟩) (show w.heap.size < w.heap.size+1+1 by omega)).trans x2,(h.cell (p:=⟨w.heap.size,3,none⟩) (show w.heap.size < w.heap.size+1+1 by omega)).trans x3,(h.cell (p:=⟨w.heap.size,4,none⟩) (show w.heap.size < w.heap.size+1+1 by omega)).trans x4,(h.cell (p:=⟨w.heap.size,5,none⟩) (show w.heap.size < w.heap.size+1+1 by omega)).trans x5,(h.cell (p:=⟨w.heap.size+1,0,none⟩) (show w.heap.size+1 < w.heap.size+1+1 by omega)).trans z0,(h.cell (p:=⟨w.heap.size+1,1,none⟩) (show w.heap.size+1 < w.heap.size+1+1 by omega)).trans z1,(h.cell (p:=⟨w.heap.size+1,2,none⟩) (show w.heap.size+1 < w.heap.size+1+1 by omega)).trans z2,h⟩
 have hlz:=hz1.lt;have hbb:=hbx.bel;have hrd:=hbx.rd;clear hW2 x0 x1 x2 x3 x4 x5 z0 z1 z2 hx1;refine rgS 8 HSS fun hHeld=>?_
 refine tkM 2 [0,2] ?_;refine rd1 1 rfl fun K hK=>?_
 go_simp;go_at_call 147
 refine (HPA.out _ (hrd.now bQ.drew)).mono ?_;rintro e wp ⟨rfl,rfl⟩;have hpb:Below W2.heap.size W2 (W2.drew.alloc (.cells (z1c v) 28)):=bQ.drew.alloc nL _;have hpk:Blk (W2.drew.alloc (.cells (z1c v) 28)) W2.heap.size 28 (z1c v):=Blk.new _ _ _ _ rfl;have hp1:Below (w.heap.size+1+1) W2 (W2.drew.alloc (.cells (z1c v) 28)):=hpb.mono (by omega);go_wp2_with fail
 refine hK.out _ _ (HSS.out _ hp1) (fun hHeld=>?_);clear hK K;try simp only[Act.put,lsa,lsz,lss]
 have hz2:=hz1.now hpb;have hrp:=hrd.now hpb;have hbp:=z00 hbb hbb.size hpb;refine rd1 3 rfl fun K hK=>?_
 go_simp;go_at_call 163
 refine (HP1.out _ hrp _ hpk).mono ?_;rintro e wq ⟨rfl,hqq⟩;have hqb:=hpb.trans (hqq.mono (by simp));have hq1:Below (w.heap.size+1+1) W2 wq:=hqb.mono (by omega);go_wp2_with fail
 refine hK.out _ _ (HSS.out _ hq1) (fun hHeld=>?_);clear hK K;try simp only[Act.put,lsa,lsz,lss]
 obtain ⟨a,b,c,hjv⟩:=y2j r;rw[hjv];have HX:=hE hjv;clear hjv;have hz3:=hz1.now hqb;have hbq:=z00 hbb hbb.size hqb;refine tkM 2 [4,5] ?_;have q0:=hz3.cell 0;have q1:=hz3.cell 1;have qf:=hz3.free;have hlq:=hz3.lt;simp only[gqA,gqZ,gqS] at q0 q1;have hq2:Below (w.heap.size+1+1) W2 ((wq.setCell ⟨w.heap.size+1+1,0,none⟩ (.int .i64 a)).setCell ⟨w.heap.size+1+1,1,none⟩ (.int .i64 b)):=(hq1.setCell (p:=⟨w.heap.size+1+1,0,none⟩) nL _).setCell (p:=⟨w.heap.size+1+1,1,none⟩) nL _;refine rd1 6 rfl fun K hK=>?_
 go_simp;refine hK.out _ _ (HSS.out _ hq2) (fun hHeld=>?_);clear hK K;try simp only[Act.put,lsa,lsz,lss]
 refine tkM 1 [7] ?_;refine wdn ?_;have hbe:Below w.heap.size w ((wq.setCell ⟨w.heap.size+1+1,0,none⟩ (.int .i64 a)).setCell ⟨w.heap.size+1+1,1,none⟩ (.int .i64 b)):=(hbq.setCell (p:=⟨w.heap.size+1+1,0,none⟩) (by show w.heap.size≤w.heap.size+1+1;omega) _).setCell (p:=⟨w.heap.size+1+1,1,none⟩) (by show w.heap.size≤w.heap.size+1+1;omega) _;go_wp2_with fail
 exact bodyPost_ret (v:=.tuple #[.agg #[.int .i64 a,.int .i64 b],.bool c]) (by simp[results,Tryz.results97,go_sem,q0,q1]) rfl ⟨by rw[HX.out],hbe⟩
structure RS (w0:World) (v:z1w) (r:z2v) (w:World):Prop where
 bel:Below w0.heap.size w0 w
 b0:Blk w w0.heap.size 33 (z0t v)
 b1:Blk w (w0.heap.size+1) 56 (z0e r)
section
variable {w0 w w':World} {v:z1w} {r:z2v}
theorem RS.new (w0:World) (v:z1w) (r:z2v):RS w0 v r ((w0.alloc (.cells (z0t v) 33)).alloc (.cells (z0e r) 56)):=
 ⟨(bQ.alloc nL _).alloc (by simp) _,(Blk.new _ _ _ _ rfl).alloc _,Blk.new _ _ _ _ (by simp)⟩
theorem RS.now (h:RS w0 v r w) (hb:Below w.heap.size w w'):RS w0 v r w':=⟨z00 h.bel h.bel.size hb,h.b0.now hb,h.b1.now hb⟩
theorem RS.alloc (h:RS w0 v r w) (o:Obj):RS w0 v r (w.alloc o):=h.now (bQ.alloc nL o)
theorem RS.put (h:RS w0 v r w) {g:Nat} (hg:w0.heap.size+2≤g) (j:Nat) (u:Value):RS w0 v r (w.setCell ⟨g,j,none⟩ u):=⟨h.bel.setCell (p:=⟨g,j,none⟩) (show w0.heap.size≤g by omega) u,h.b0.far (p:=⟨g,j,none⟩) (show w0.heap.size≠g by omega) u,h.b1.far (p:=⟨g,j,none⟩) (show w0.heap.size+1≠g by omega) u⟩
end
def z97 (l:List Int):Array Value:=((List.range 24).map fun j:Nat=>Value.bool (decide ((j:Int)∈l))).toArray
theorem y6g (l:List Int) {n:Nat} (h:n < 24):(z97 l)[n]? = some (.bool (decide ((n:Int)∈l))):=by
 unfold z97;simp[h]
theorem y6h (l:List Int) {n:Nat} (h:n < 24):(z97 l).setIfInBounds n (.bool true)=z97 (l++[(n:Int)]):=by
 apply Array.ext
 ·simp[z97]
 ·intro i h1 h2;simp only[z97,Array.size_setIfInBounds] at h1 ⊢;simp at h1;by_cases e:i=n
  ·subst e;simp[z97]
  ·have e2:¬((i:Int)=(n:Int)):=by omega
   simp[z97,Array.getElem_setIfInBounds,e2,show ¬n=i by omega]
theorem x5b {w:World} {g:Nat} {T:TypeId} {A B:Option Addr} {a b:List Int} {ca cb:Nat} (h:Blk w g T #[.slice A a.length ca,.slice B b.length cb]) (ha:RdS cI w (Lt w) A a) (hb:RdS cI w (Lt w) B b) (na:a.length≤maxLen∧a.length≤ca) (nb:b.length≤maxLen∧b.length≤cb):RdS (cL cI) w (Lt w) (some ⟨g,0,none⟩) [a,b]:=by
 refine fun _=>⟨g,0,rfl,h.lt,fun i x hi=>?_⟩
 match i,hi with
 | 0,hi=>
  simp at hi;subst hi;exact ⟨[.slice A a.length ca],⟨A,ca,rfl,na,ha⟩,fun j u hu=>by
   match j,hu with
   | 0,hu=>simp at hu;subst hu;exact h.cell 0
   | j+1,hu=>simp at hu⟩
 | 1,hi=>
  simp at hi;subst hi;exact ⟨[.slice B b.length cb],⟨B,cb,rfl,nb,hb⟩,fun j u hu=>by
   match j,hu with
   | 0,hu=>simp at hu;subst hu;exact h.cell 1
   | j+1,hu=>simp at hu⟩
 | i+2,hi=>simp at hi
theorem j3j {t:Tab} {r:Rou} (h:inB r.ent 0 (t.nsig - 1)=false):z7r t r=false:=by unfold z7r;rw[h];rfl
theorem j3k {t:Tab} {r:Rou} (h:r.ext≠-1) (h2:inB r.ext 0 (t.nsig - 1)=false):z7r t r=false:=by
 have:inB r.ext (-1) (t.nsig - 1)=false:=by
  rw[←Bool.not_eq_true,z1f] at h2 ⊢;omega
 unfold z7r;rw[this];simp
theorem x3d {t:Tab} {r:Rou} (hs:0≤t.nsig) (h:r.ext = -1∨inB r.ext 0 (t.nsig - 1)=true):inB r.ext (-1) (t.nsig - 1)=true:=by
 rw[z1f] at *;omega
theorem y4e {t:Tab} {r:Rou} (h:r.path.length < 1∨12 < r.path.length):z7r t r=false:=by
 have:(decide (1≤r.path.length) && decide (r.path.length≤12))=false:=by
  rcases h with h | h
  ·rw[dFf (by omega)];rfl
  ·rw[dFf (show ¬r.path.length≤12 by omega),Bool.and_false]
 unfold z7r;rw[this];simp
theorem x5e {t:Tab} {r:Rou} (h:r.secs.length=0):z7r t r=false:=by
 unfold z7r;rw[List.length_eq_zero_iff.1 h];simp
theorem x5f {t:Tab} {r:Rou} (h:x5m t (r.secs++r.osecs)=false):z7r t r=false:=by unfold z7r;rw[h];simp
theorem x5d {t:Tab} {r:Rou} (h1:inB r.ent 0 (t.nsig - 1)=true) (h2:inB r.ext (-1) (t.nsig - 1)=true) (h3:¬r.path.length < 1) (h4:¬12 < r.path.length) (h5:r.secs.length≠0) (h6:x5m t (r.secs++r.osecs)=true):z7r t r=(inB r.app 0 (t.nsec - 1) && decide (1≤r.len)):=by
 unfold z7r;rw[h1,h2,h6,dTt (show 1≤r.path.length by omega),dTt (show r.path.length≤12 by omega),dTt (show r.secs≠[] from fun e=>h5 (by rw[e];rfl))];rfl
theorem x5o {t:Tab} {l:List Int} {k:Nat} (hk:k < l.length) (h:inB l[k] 0 (t.nsec - 1)=false):x5m t l=false:=by unfold x5m;rw[z4p hk h];rfl
theorem x5p {t:Tab} {l:List Int} {k:Nat} (hk:k < l.length) (h:l[k]∈l.take k):x5m t l=false:=by unfold x5m;rw[dFf (z5u hk h),Bool.and_false]
theorem x5n {t:Tab} {l:List Int} {k:Nat} (hk:¬k < l.length) (h:(l.take k).all (fun s=>inB s 0 (t.nsec - 1))=true) (h2:(l.take k).Nodup):x5m t l=true:=by
 rw[tlL (by omega)] at h h2;unfold x5m;rw[h,dTt h2];rfl
def j7t (t:Tab) (l:List Int) (k:Nat):Prop:=(l.take k).all (fun s=>inB s 0 (t.nsec - 1))=true∧(l.take k).Nodup
theorem y1e.j9n {w:World} {base:Nat} {e:TypeId} {v:Value} {l:List Int} (h:y1e cI w base e v l):z09 cI w base e v l 0:=by
 obtain ⟨xs,h1,h2,_⟩:=h;have key:∀ {l:List Int} {xs:List Value} {S S':Nat→Prop},RdC cI w S xs l→RdC cI w S' xs l:=by
  intro l
  induction l with
  | nil=>exact fun h=>h
  | cons a l ih=>exact fun ⟨y,z,h1,h2,h3⟩=>⟨y,z,h1,h2,ih h3⟩
 exact ⟨xs,h1,key h2,nZ⟩
theorem y1q (v:z1w) (r:z2v) (w:World) (hr:TvR w v) (hrr:RvR w (Lt w) r) (hs1:0≤v.t.nsec) (hs2:v.t.nsec≤24) (hg1:0≤v.t.nsig) (hg2:v.t.nsig≤20) (hl3:r.r.secs.length≤40000) (hl6:r.r.osecs.length≤40000) :
  Calls Tryz.prog 54 #[tvA v,.agg (z0e r)] w fun e w'=>e=.returned (.bool (z7r v.t r.r))∧Below w.heap.size w w':=by
 have hS:=RS.new w v r;have x3:=hS.b0.cell 3;have x4:=hS.b0.cell 4;have y1:=hS.b1.cell 1;have y2:=hS.b1.cell 2;have y3:=hS.b1.cell 3;have y5:=hS.b1.cell 5;have y10:=hS.b1.cell 10;simp only[gqA,gqZ,gqS] at x3 x4 y1 y2 y3 y5 y10;have hB:=hS.bel;unfold tvA
 cases c1:inB r.r.ent 0 (v.t.nsig - 1) with
 | false=>
  have HX:=hE (j3j c1);have HC1:=hE fun W=>z1g c1 W (by omega)
  clear c1;go_enter Tryz.func54,Tryz.ntmps54
  go_wp2_with (go_at_call 52;refine (HC1.out _).mono ?_;rintro e wq ⟨rfl,rfl⟩)
  go_ret
  exact ⟨z0a HX.out.symm,hB⟩
 | true=>
  have HC1:=hE fun W=>z1g c1 W (by omega)
  by_cases hx:r.r.ext = -1
  ·have HE:=hE (x3d (t:=v.t) (r:=r.r) hg1 (Or.inl hx));have hxb:(r.r.ext != -1)=false:=by simp[hx]
   clear hx;by_cases p1:r.r.path.length < 1
   ·have HX:=hE (y4e (t:=v.t) (Or.inl p1));have p1i:((r.r.path.length:Int) < 1):=by omega
    clear p1;go_enter Tryz.func54,Tryz.ntmps54
    go_wp2_with fail;refine (HC1.out _).mono ?_;rintro e wq ⟨rfl,rfl⟩;go_wp2_with fail
    go_ret;exact ⟨z0a HX.out.symm,hB⟩
   by_cases p2:12 < r.r.path.length
   ·have HX:=hE (y4e (t:=v.t) (Or.inr p2));have p1i:¬((r.r.path.length:Int) < 1):=by omega
    have p2i:((12:Int) < r.r.path.length):=by omega
    clear p1 p2;go_enter Tryz.func54,Tryz.ntmps54
    go_wp2_with fail;refine (HC1.out _).mono ?_;rintro e wq ⟨rfl,rfl⟩;go_wp2_with fail
    go_ret;exact ⟨z0a HX.out.symm,hB⟩
   by_cases p3:r.r.secs.length=0
   ·have HX:=hE (x5e (t:=v.t) p3);have p1i:¬((r.r.path.length:Int) < 1):=by omega
    have p2i:¬((12:Int) < r.r.path.length):=by omega
    have p3i:((r.r.secs.length:Int)==0)=true:=by rw[beq_iff_eq];omega
    clear p1 p2 p3;go_enter Tryz.func54,Tryz.ntmps54
    go_wp2_with fail;refine (HC1.out _).mono ?_;rintro e wq ⟨rfl,rfl⟩;go_wp2_with fail
    go_ret;exact ⟨z0a HX.out.symm,hB⟩
   have HF:=hE (x5d (t:=v.t) (r:=r.r) c1 HE.out p1 p2 p3);have HP3:=hE p3;have p1i:¬((r.r.path.length:Int) < 1):=by omega
   have p2i:¬((12:Int) < r.r.path.length):=by omega
   have p3i:((r.r.secs.length:Int)==0)=false:=by rw[beq_eq_false_iff_ne];omega
   clear p1 p2 p3 c1;go_enter Tryz.func54,Tryz.ntmps54
   go_wp2_with fail;refine (HC1.out _).mono ?_;rintro e wq ⟨rfl,rfl⟩;go_wp2_with fail
   have hU:Blk ((((w.alloc (.cells (z0t v) 33)).alloc (.cells (z0e r) 56)).alloc (.cells #[.bool false,.bool false,.bool false,.bool false,.bool false,.bool false,.bool false,.bool false,.bool false,.bool false,.bool false,.bool false,.bool false,.bool false,.bool false,.bool false,.bool false,.bool false,.bool false,.bool false,.bool false,.bool false,.bool false,.bool false] 168)).alloc (.cells #[.slice r.A3 r.r.secs.length r.c3,.slice r.A6 r.r.osecs.length r.c6] 31)) (w.heap.size+1+1) 168 (z97 []):=(Blk.new _ _ _ _ (by simp)).alloc _;have hA:Blk ((((w.alloc (.cells (z0t v) 33)).alloc (.cells (z0e r) 56)).alloc (.cells #[.bool false,.bool false,.bool false,.bool false,.bool false,.bool false,.bool false,.bool false,.bool false,.bool false,.bool false,.bool false,.bool false,.bool false,.bool false,.bool false,.bool false,.bool false,.bool false,.bool false,.bool false,.bool false,.bool false,.bool false] 168)).alloc (.cells #[.slice r.A3 r.r.secs.length r.c3,.slice r.A6 r.r.osecs.length r.c6] 31)) (w.heap.size+1+1+1) 31 #[.slice r.A3 r.r.secs.length r.c3,.slice r.A6 r.r.osecs.length r.c6]:=Blk.new _ _ _ _ (by simp);have hS2:=(hS.alloc (.cells #[.bool false,.bool false,.bool false,.bool false,.bool false,.bool false,.bool false,.bool false,.bool false,.bool false,.bool false,.bool false,.bool false,.bool false,.bool false,.bool false,.bool false,.bool false,.bool false,.bool false,.bool false,.bool false,.bool false,.bool false] 168)).alloc (.cells #[.slice r.A3 r.r.secs.length r.c3,.slice r.A6 r.r.osecs.length r.c6] 31);have hz2:=hA.lt;generalize (((w.alloc (.cells (z0t v) 33)).alloc (.cells (z0e r) 56)).alloc (.cells #[.bool false,.bool false,.bool false,.bool false,.bool false,.bool false,.bool false,.bool false,.bool false,.bool false,.bool false,.bool false,.bool false,.bool false,.bool false,.bool false,.bool false,.bool false,.bool false,.bool false,.bool false,.bool false,.bool false,.bool false] 168)).alloc (.cells #[.slice r.A3 r.r.secs.length r.c3,.slice r.A6 r.r.osecs.length r.c6] 31)=W4 at *;have HCC:=hE (z8a [r.r.secs,r.r.osecs] (some ⟨w.heap.size+1+1+1,0,none⟩) 2 W4 (x5b hA (hrr.r3.now hS2.bel) (hrr.r6.now hS2.bel) hrr.o.n3 hrr.o.n6) (by simp) (by intro l hl;simp only[List.mem_cons,List.not_mem_nil,or_false] at hl;rcases hl with rfl | rfl <;> assumption));refine HCC.out.mono ?_;rintro e w5 ⟨v5,rfl,hlow,hq⟩;have hown:=hlow.j9n;rw[show [r.r.secs,r.r.osecs].flatten=r.r.secs++r.r.osecs by simp] at hown;have hS5:=hS2.now hq;have hU5:=hU.now hq;have HNO:=hE (x5f (t:=v.t) (r:=r.r));have HL0:0 < (r.r.secs++r.r.osecs).length:=by have:=HP3.out;rw[qL];omega
   have hLm:(r.r.secs++r.r.osecs).length≤90000:=by rw[qL];omega
   clear hlow hq hS2 hU hA HCC hS x3 x4 y1 y2 y3 y5 y10 hB p1i p2i p3i HP3 hrr;generalize r.r.secs++r.r.osecs=L at *;obtain ⟨g6,c6,rfl,hc6⟩:=y9e hown HL0;go_wp2_with fail
   go_loopw [50] (fun n wr=>∃ k:Nat,k≤L.length∧n=.int .i64 k∧RS w v r wr∧Blk wr (w.heap.size+1+1) 168 (z97 (L.take k))∧z09 cI wr W4.heap.size 3 (.slice (some ⟨g6,0,none⟩) L.length c6) L 0∧Hid (j7t v.t L k)) (fun n _=>L.length - (intOf n).toNat)
   case atStart=>exact ⟨0,nZ,rfl,hS5,hU5,hown,hE ⟨by simp,by simp⟩⟩
   case round=>
    clear hS5 hU5 hown;obtain ⟨k,hk,rfl,hS,hU,hown,HK⟩:=hrel;have x3:=hS.b0.cell 3;simp only[gqA,gqZ,gqS] at x3;by_cases hlt:k < L.length
    ·have hki:(k:Int) < (L.length:Int):=by omega
     have y0:=(y5w hown hlt).1;rw[Nat.zero_add] at y0
     cases c3:inB L[k] 0 (v.t.nsec - 1) with
     | false=>
      have HX:=hE (HNO.out (x5o hlt c3));have HC3:=hE fun W=>z1g c3 W (by omega)
      clear c3 HK;generalize L[k]=q at *;go_wp2_with fail
      refine (HC3.out _).mono ?_;rintro e wq ⟨rfl,rfl⟩;go_wp2_with fail
      go_ret
      exact ⟨z0a HX.out.symm,hS.bel⟩
     | true=>
      have HC3:=hE fun W=>z1g c3 W (by omega)
      obtain ⟨n,hn⟩:=Int.eq_ofNat_of_zero_le (z1f.1 c3).1;have hn24:n < 24:=by have:=(z1f.1 c3).2;omega
      have hni:(n:Int) < 24:=by omega
      have u0:=(hU.cell n).trans (y6g _ hn24);have hf:=hU.free n;by_cases hm:L[k]∈L.take k
      ·have HX:=hE (HNO.out (x5p hlt hm));rw[hn] at hm;rw[dTt hm] at u0;clear c3 HK hm;rw[hn] at y0 HC3;clear hn;go_wp2_with fail
       refine (HC3.out _).mono ?_;rintro e wq ⟨rfl,rfl⟩;go_wp2_with fail
       go_ret;exact ⟨z0a HX.out.symm,hS.bel⟩
      ·have HK2:Hid (j7t v.t L (k+1)):=hE ⟨z4a hlt HK.out.1 c3,z3z hlt HK.out.2 hm⟩;have HT:Hid (L.take (k+1)=L.take k++[(n:Int)]):=hE (by rw[tqS hlt,hn]);rw[hn] at hm;rw[dFf hm] at u0;rw[hn] at y0 HC3;have HS2:=hE (hS.put (show w.heap.size+2≤w.heap.size+1+1 by omega) n (.bool true));have HU2:=hU.set n (.bool true);rw[y6h _ hn24,←HT.out] at HU2;have HU3:=hE HU2;have HO2:=hE (hown.set (w.heap.size+1+1) n (.bool true) _ _ hU (by decide) nZ);clear c3 HK hm hn HU2;go_wp2_with fail
       refine (HC3.out _).mono ?_;rintro e wq ⟨rfl,rfl⟩;go_wp2_with fail
       go_roundw
       case rel=>exact ⟨k+1,by omega,by go_num,HS2.out,HU3.out,HO2.out,HK2⟩
       case measure=>simp[intOf];omega
    ·have HFF:=HF.out (x5n hlt HK.out.1 HK.out.2);have y6:=hS.b1.cell 6;have y7:=hS.b1.cell 7;simp only[gqA,gqZ,gqS] at y6 y7
     cases c4:inB r.r.app 0 (v.t.nsec - 1) with
     | false=>
      have HX:Hid (z7r v.t r.r=false):=hE (by rw[HFF,c4];rfl);have HC4:=hE fun W=>z1g c4 W (by omega)
      clear c4 HFF HK hU hown;go_wp2_with fail
      refine (HC4.out _).mono ?_;rintro e wq ⟨rfl,rfl⟩;go_wp2_with fail
      go_ret
      exact ⟨z0a HX.out.symm,hS.bel⟩
     | true=>
      have HX:Hid (z7r v.t r.r=decide (1≤r.r.len)):=hE (by rw[HFF,c4,Bool.true_and]);have HC4:=hE fun W=>z1g c4 W (by omega)
      clear c4 HFF HK hU hown;go_wp2_with fail
      refine (HC4.out _).mono ?_;rintro e wq ⟨rfl,rfl⟩;go_wp2_with fail
      go_ret;exact ⟨z0a HX.out.symm,hS.bel⟩
  ·have hxb:(r.r.ext != -1)=true:=by simp[hx]
   cases c2:inB r.r.ext 0 (v.t.nsig - 1) with
   | false=>
    have HX:=hE (j3k hx c2);have HC2:=hE fun W=>z1g c2 W (by omega)
    clear c1 c2 hx;go_enter Tryz.func54,Tryz.ntmps54
    go_wp2_with fail;refine (HC1.out _).mono ?_;rintro e wq ⟨rfl,rfl⟩;go_wp2_with fail
    refine (HC2.out _).mono ?_;rintro e wq ⟨rfl,rfl⟩;go_wp2_with fail
    go_ret
    exact ⟨z0a HX.out.symm,hB⟩
   | true=>
    have HE:=hE (x3d (t:=v.t) (r:=r.r) hg1 (Or.inr c2));have HC2:=hE fun W=>z1g c2 W (by omega)
    clear c2 hx;by_cases p1:r.r.path.length < 1
    ·have HX:=hE (y4e (t:=v.t) (Or.inl p1));have p1i:((r.r.path.length:Int) < 1):=by omega
     clear p1;go_enter Tryz.func54,Tryz.ntmps54
     go_wp2_with fail;refine (HC1.out _).mono ?_;rintro e wq ⟨rfl,rfl⟩;go_wp2_with fail
     refine (HC2.out _).mono ?_;rintro e wq ⟨rfl,rfl⟩;go_wp2_with fail
     go_ret;exact ⟨z0a HX.out.symm,hB⟩
    by_cases p2:12 < r.r.path.length
    ·have HX:=hE (y4e (t:=v.t) (Or.inr p2));have p1i:¬((r.r.path.length:Int) < 1):=by omega
     have p2i:((12:Int) < r.r.path.length):=by omega
     clear p1 p2;go_enter Tryz.func54,Tryz.ntmps54
     go_wp2_with fail;refine (HC1.out _).mono ?_;rintro e wq ⟨rfl,rfl⟩;go_wp2_with fail
     refine (HC2.out _).mono ?_;rintro e wq ⟨rfl,rfl⟩;go_wp2_with fail
     go_ret;exact ⟨z0a HX.out.symm,hB⟩
    by_cases p3:r.r.secs.length=0
    ·have HX:=hE (x5e (t:=v.t) p3);have p1i:¬((r.r.path.length:Int) < 1):=by omega
     have p2i:¬((12:Int) < r.r.path.length):=by omega
     have p3i:((r.r.secs.length:Int)==0)=true:=by rw[beq_iff_eq];omega
     clear p1 p2 p3;go_enter Tryz.func54,Tryz.ntmps54
     go_wp2_with fail;refine (HC1.out _).mono ?_;rintro e wq ⟨rfl,rfl⟩;go_wp2_with fail
     refine (HC2.out _).mono ?_;rintro e wq ⟨rfl,rfl⟩;go_wp2_with fail
     go_ret;exact ⟨z0a HX.out.symm,hB⟩
    have HF:=hE (x5d (t:=v.t) (r:=r.r) c1 HE.out p1 p2 p3);have HP3:=hE p3;have p1i:¬((r.r.path.length:Int) < 1):=by omega
    have p2i:¬((12:Int) < r.r.path.length):=by omega
    have p3i:((r.r.secs.length:Int)==0)=false:=by rw[beq_eq_false_iff_ne];omega
    clear p1 p2 p3 c1;go_enter Tryz.func54,Tryz.ntmps54
    go_wp2_with fail;refine (HC1.out _).mono ?_;rintro e wq ⟨rfl,rfl⟩;go_wp2_with fail
    refine (HC2.out _).mono ?_;rintro e wq ⟨rfl,rfl⟩;go_wp2_with fail
    have hU:Blk ((((w.alloc (.cells (z0t v) 33)).alloc (.cells (z0e r) 56)).alloc (.cells #[.bool false,.bool false,.bool false,.bool false,.bool false,.bool false,.bool false,.bool false,.bool false,.bool false,.bool false,.bool false,.bool false,.bool false,.bool false,.bool false,.bool false,.bool false,.bool false,.bool false,.bool false,.bool false,.bool false,.bool false] 168)).alloc (.cells #[.slice r.A3 r.r.secs.length r.c3,.slice r.A6 r.r.osecs.length r.c6] 31)) (w.heap.size+1+1) 168 (z97 []):=(Blk.new _ _ _ _ (by simp)).alloc _;have hA:Blk ((((w.alloc (.cells (z0t v) 33)).alloc (.cells (z0e r) 56)).alloc (.cells #[.bool false,.bool false,.bool false,.bool false,.bool false,.bool false,.bool false,.bool false,.bool false,.bool false,.bool false,.bool false,.bool false,.bool false,.bool false,.bool false,.bool false,.bool false,.bool false,.bool false,.bool false,.bool false,.bool false,.bool false] 168)).alloc (.cells #[.slice r.A3 r.r.secs.length r.c3,.slice r.A6 r.r.osecs.length r.c6] 31)) (w.heap.size+1+1+1) 31 #[.slice r.A3 r.r.secs.length r.c3,.slice r.A6 r.r.osecs.length r.c6]:=Blk.new _ _ _ _ (by simp);have hS2:=(hS.alloc (.cells #[.bool false,.bool false,.bool false,.bool false,.bool false,.bool false,.bool false,.bool false,.bool false,.bool false,.bool false,.bool false,.bool false,.bool false,.bool false,.bool false,.bool false,.bool false,.bool false,.bool false,.bool false,.bool false,.bool false,.bool false] 168)).alloc (.cells #[.slice r.A3 r.r.secs.length r.c3,.slice r.A6 r.r.osecs.length r.c6] 31);have hz2:=hA.lt;generalize (((w.alloc (.cells (z0t v) 33)).alloc (.cells (z0e r) 56)).alloc (.cells #[.bool false,.bool false,.bool false,.bool false,.bool false,.bool false,.bool false,.bool false,.bool false,.bool false,.bool false,.bool false,.bool false,.bool false,.bool false,.bool false,.bool false,.bool false,.bool false,.bool false,.bool false,.bool false,.bool false,.bool false] 168)).alloc (.cells #[.slice r.A3 r.r.secs.length r.c3,.slice r.A6 r.r.osecs.length r.c6] 31)=W4 at *;have HCC:=hE (z8a [r.r.secs,r.r.osecs] (some ⟨w.heap.size+1+1+1,0,none⟩) 2 W4 (x5b hA (hrr.r3.now hS2.bel) (hrr.r6.now hS2.bel) hrr.o.n3 hrr.o.n6) (by simp) (by intro l hl;simp only[List.mem_cons,List.not_mem_nil,or_false] at hl;rcases hl with rfl | rfl <;> assumption));refine HCC.out.mono ?_;rintro e w5 ⟨v5,rfl,hlow,hq⟩;have hown:=hlow.j9n;rw[show [r.r.secs,r.r.osecs].flatten=r.r.secs++r.r.osecs by simp] at hown;have hS5:=hS2.now hq;have hU5:=hU.now hq;have HNO:=hE (x5f (t:=v.t) (r:=r.r));have HL0:0 < (r.r.secs++r.r.osecs).length:=by have:=HP3.out;rw[qL];omega
    have hLm:(r.r.secs++r.r.osecs).length≤90000:=by rw[qL];omega
    clear hlow hq hS2 hU hA HCC hS x3 x4 y1 y2 y3 y5 y10 hB p1i p2i p3i HP3 hrr;generalize r.r.secs++r.r.osecs=L at *;obtain ⟨g6,c6,rfl,hc6⟩:=y9e hown HL0;go_wp2_with fail
    go_loopw [50] (fun n wr=>∃ k:Nat,k≤L.length∧n=.int .i64 k∧RS w v r wr∧Blk wr (w.heap.size+1+1) 168 (z97 (L.take k))∧z09 cI wr W4.heap.size 3 (.slice (some ⟨g6,0,none⟩) L.length c6) L 0∧Hid (j7t v.t L k)) (fun n _=>L.length - (intOf n).toNat)
    case atStart=>exact ⟨0,nZ,rfl,hS5,hU5,hown,hE ⟨by simp,by simp⟩⟩
    case round=>
     clear hS5 hU5 hown;obtain ⟨k,hk,rfl,hS,hU,hown,HK⟩:=hrel;have x3:=hS.b0.cell 3;simp only[gqA,gqZ,gqS] at x3;by_cases hlt:k < L.length
     ·have hki:(k:Int) < (L.length:Int):=by omega
      have y0:=(y5w hown hlt).1;rw[Nat.zero_add] at y0
      cases c3:inB L[k] 0 (v.t.nsec - 1) with
      | false=>
       have HX:=hE (HNO.out (x5o hlt c3));have HC3:=hE fun W=>z1g c3 W (by omega)
       clear c3 HK;generalize L[k]=q at *;go_wp2_with fail
       refine (HC3.out _).mono ?_;rintro e wq ⟨rfl,rfl⟩;go_wp2_with fail
       go_ret
       exact ⟨z0a HX.out.symm,hS.bel⟩
      | true=>
       have HC3:=hE fun W=>z1g c3 W (by omega)
       obtain ⟨n,hn⟩:=Int.eq_ofNat_of_zero_le (z1f.1 c3).1;have hn24:n < 24:=by have:=(z1f.1 c3).2;omega
       have hni:(n:Int) < 24:=by omega
       have u0:=(hU.cell n).trans (y6g _ hn24);have hf:=hU.free n;by_cases hm:L[k]∈L.take k
       ·have HX:=hE (HNO.out (x5p hlt hm));rw[hn] at hm;rw[dTt hm] at u0;clear c3 HK hm;rw[hn] at y0 HC3;clear hn;go_wp2_with fail
        refine (HC3.out _).mono ?_;rintro e wq ⟨rfl,rfl⟩;go_wp2_with fail
        go_ret;exact ⟨z0a HX.out.symm,hS.bel⟩
       ·have HK2:Hid (j7t v.t L (k+1)):=hE ⟨z4a hlt HK.out.1 c3,z3z hlt HK.out.2 hm⟩;have HT:Hid (L.take (k+1)=L.take k++[(n:Int)]):=hE (by rw[tqS hlt,hn]);rw[hn] at hm;rw[dFf hm] at u0;rw[hn] at y0 HC3;have HS2:=hE (hS.put (show w.heap.size+2≤w.heap.size+1+1 by omega) n (.bool true));have HU2:=hU.set n (.bool true);rw[y6h _ hn24,←HT.out] at HU2;have HU3:=hE HU2;have HO2:=hE (hown.set (w.heap.size+1+1) n (.bool true) _ _ hU (by decide) nZ);clear c3 HK hm hn HU2;go_wp2_with fail
        refine (HC3.out _).mono ?_;rintro e wq ⟨rfl,rfl⟩;go_wp2_with fail
        go_roundw
        case rel=>exact ⟨k+1,by omega,by go_num,HS2.out,HU3.out,HO2.out,HK2⟩
        case measure=>simp[intOf];omega
     ·have HFF:=HF.out (x5n hlt HK.out.1 HK.out.2);have y6:=hS.b1.cell 6;have y7:=hS.b1.cell 7;simp only[gqA,gqZ,gqS] at y6 y7
      cases c4:inB r.r.app 0 (v.t.nsec - 1) with
      | false=>
       have HX:Hid (z7r v.t r.r=false):=hE (by rw[HFF,c4];rfl);have HC4:=hE fun W=>z1g c4 W (by omega)
       clear c4 HFF HK hU hown;go_wp2_with fail
       refine (HC4.out _).mono ?_;rintro e wq ⟨rfl,rfl⟩;go_wp2_with fail
       go_ret
       exact ⟨z0a HX.out.symm,hS.bel⟩
      | true=>
       have HX:Hid (z7r v.t r.r=decide (1≤r.r.len)):=hE (by rw[HFF,c4,Bool.true_and]);have HC4:=hE fun W=>z1g c4 W (by omega)
       clear c4 HFF HK hU hown;go_wp2_with fail
       refine (HC4.out _).mono ?_;rintro e wq ⟨rfl,rfl⟩;go_wp2_with fail
       go_ret;exact ⟨z0a HX.out.symm,hS.bel⟩
end Go.Proofs.YtpenlfedkacglaaGreatDoor
namespace Go.Proofs.YtpenlfedkacglaaGreatDoor
open Go.RowKit Go.Sort
attribute [local go_sem] z05 z07 z01 z02
attribute [-go_sem] run_equalIn_agg
def orI (a b:Int):Int:=if a=0 then b else a
theorem x4u (a b:Int) (g:Nat) (T:TypeId) (w:World) (h:Blk w g T #[.int .i64 a,.int .i64 b]):Calls Tryz.prog 41 #[.slice (some ⟨g,0,none⟩) 2 2] w fun e w'=>e=.returned (.int .i64 (orI a b))∧w' = w:=by
 have y0:=h.cell 0;have y1:=h.cell 1;simp only[gqA,gqZ,gqS] at y0 y1;clear h;go_enter Tryz.func41,Tryz.ntmps41
 go_wp2_with fail;go_loop [8] (fun i=>∃ k:Nat,k≤2∧i=.int .i64 k∧Hid (1≤k→a=0)∧Hid (2≤k→b=0)) (fun i=>2 - (intOf i).toNat)
 case atStart=>exact ⟨0,by omega,rfl,hE (by omega),hE (by omega)⟩
 case round=>
  obtain ⟨k,hk,rfl,H1,H2⟩:=hrel;have:k=0∨k=1∨k=2:=by omega
  rcases this with rfl | rfl | rfl
  ·by_cases ha:a=0
   ·have t1:(a != 0)=false:=by simp[ha]
    have HA:=hE ha;clear ha;go_wp2_with fail
    go_round
    case rel=>exact ⟨1,by omega,by first | rfl | go_num,hE fun _=>HA.out,hE (by omega)⟩
    case measure=>simp[intOf]
   ·have t1:(a != 0)=true:=by simp[ha]
    have HX:Hid (orI a b=a):=hE (by unfold orI;rw[if_neg ha]);clear ha;go_wp2_with fail
    go_ret;exact ⟨z0i HX.out.symm,rfl⟩
  ·have HX:Hid (orI a b=b):=hE (by unfold orI;rw[if_pos (H1.out (by omega))]);by_cases hb:b=0
   ·have t1:(b != 0)=false:=by simp[hb]
    have HB:=hE hb;clear hb;go_wp2_with fail
    go_round
    case rel=>exact ⟨2,by omega,by first | rfl | go_num,hE fun _=>H1.out (by omega),hE fun _=>HB.out⟩
    case measure=>simp[intOf]
   ·have t1:(b != 0)=true:=by simp[hb]
    clear hb;go_wp2_with fail
    go_ret;exact ⟨z0i HX.out.symm,rfl⟩
  ·have HX:Hid (orI a b=0):=hE (by unfold orI;rw[if_pos (H1.out (by omega)),H2.out (by omega)]);go_wp2_with fail
   go_ret;exact ⟨z0i HX.out.symm,rfl⟩
def z3m (x:Stg):List Value:=[.int .i64 x.el,.int .i64 x.pos]
def cfG (x y:Stg):Int:=orI (Lib.compareInt x.el y.el) (Lib.compareInt x.pos y.pos)
theorem y5l (x y:Stg):ltOf cfG x y=ltG x y:=by
 rw[Bool.eq_iff_iff,y0d];unfold ltOf cfG orI Lib.compareInt;simp only[dET];by_cases h1:x.el < y.el
 ·simp[h1]
 ·by_cases h2:y.el < x.el
  ·simp[h1,h2];omega
  ·by_cases h3:x.pos < y.pos
   ·simp[h1,h2,h3];omega
   ·by_cases h4:y.pos < x.pos <;> simp[h1,h2,h3,h4] <;> omega
theorem k0i:SWO (ltOf cfG) where
 irrefl x:=by rw[y5l,y5k];omega
 trans x y z h1 h2:=by rw[y5l,y0d] at *;omega
 ntrans x y z h1 h2:=by rw[y5l,y5k] at *;omega
theorem j2i (l:List Stg):l.mergeSort (fun x y=>!(ltOf cfG) y x)=z4l ltG l:=by
 have he:(fun x y=>!(ltOf cfG) y x)=fun x y:Stg=>!ltG y x:=by funext x y;rw[y5l]
 rw[he];refine y6c x49 ((List.mergeSort_perm l _).trans (z1k l).symm) ?_ (z5b x4b x4a l);have:=List.pairwise_mergeSort (le:=fun x y:Stg=>!ltG y x) (fun a b c h1 h2=>by
  simp only[Bool.not_eq_true'] at *;exact x4b _ _ _ h1 h2) (fun a b=>by
  simp only[Bool.or_eq_true,Bool.not_eq_true']
  cases h:ltG b a with
  | false=>exact Or.inl rfl
  | true=>exact Or.inr (x4a _ _ h)) l
 exact this.imp fun h=>by simpa using h
theorem x74 (x y:Stg) (W:World):Calls Tryz.prog 99 #[.agg (z3m x).toArray,.agg (z3m y).toArray] W fun e w'=>e=.returned (.int .i64 (cfG x y))∧∃ q os',w' = grow (W.drewN q) os':=by
 have hc:=Tryz.cmp_Compare_int;obtain ⟨x0,x1⟩:=x;obtain ⟨y0,y1⟩:=y;unfold z3m cfG;dsimp only;obtain ⟨W2,hW2⟩:∃ V,V=(W.alloc (.cells #[.int .i64 x0,.int .i64 x1] 78)).alloc (.cells #[.int .i64 y0,.int .i64 y1] 78):=⟨_,rfl⟩
 have ha:Blk W2 W.heap.size 78 #[.int .i64 x0,.int .i64 x1]:=by rw[hW2];exact (Blk.new _ _ _ _ rfl).alloc _
 have hb:Blk W2 (W.heap.size+1) 78 #[.int .i64 y0,.int .i64 y1]:=by rw[hW2];exact Blk.new _ _ _ _ (by simp)
 have a0:=ha.cell 0;have a1:=ha.cell 1;have b0:=hb.cell 0;have b1:=hb.cell 1;have la:=ha.lt;have lb:=hb.lt;simp only[gqA,gqZ,gqS] at a0 a1 b0 b1;clear ha hb;go_enter Tryz.func99,Tryz.ntmps99
 go_wp2_with fail;rw[←hW2];have HW:=hE hW2;clear hW2;have HSS:Hid (∀ V,Below W2.heap.size W2 V→(fun w'=>w'.cell? ⟨W.heap.size,0,none⟩=some (.int .i64 x0)∧w'.cell? ⟨W.heap.size,1,none⟩=some (.int .i64 x1)∧w'.cell? ⟨W.heap.size+1,0,none⟩=some (.int .i64 y0)∧w'.cell? ⟨W.heap.size+1,1,none⟩=some (.int .i64 y1)∧Below W2.heap.size W2 w') V):=hE fun V h=>⟨(h.cell (p:=⟨W.heap.size,0,none⟩) la).trans a0,(h.cell (p:=⟨W.heap.size,1,none⟩) la).trans a1,(h.cell (p:=⟨W.heap.size+1,0,none⟩) lb).trans b0,(h.cell (p:=⟨W.heap.size+1,1,none⟩) lb).trans b1,h⟩
 clear a0 a1 b0 b1;refine rgS 13 HSS fun hHeld=>?_
 refine tkM 8 [0,1,2,3,5,6,7,8] ?_;refine rd1 4 rfl fun K hK=>?_
 go_simp;go_at_call 42
 refine (hc _ _ _).mono ?_;rintro e wq ⟨rfl,rfl⟩;go_wp2_with fail
 refine hK.out _ _ (HSS.out _ bQ.drew) (fun hHeld=>?_);clear hK K;try simp only[Act.put,lsa,lsz,lss]
 refine rd1 9 rfl fun K hK=>?_
 go_simp;go_at_call 42
 refine (hc _ _ _).mono ?_;rintro e wq ⟨rfl,rfl⟩;go_wp2_with fail
 refine hK.out _ _ (HSS.out _ bQ.drew) (fun hHeld=>?_);clear hK K;try simp only[Act.put,lsa,lsz,lss]
 refine rd1 10 rfl fun K hK=>?_
 go_simp;refine hK.out _ _ (HSS.out _ (bQ.drew.alloc nL _)) (fun hHeld=>?_);clear hK K;try simp only[Act.put,lsa,lsz,lss]
 refine rd1 11 rfl fun K hK=>?_
 go_simp;go_at_call 41
 refine (x4u (Lib.compareInt x0 y0) (Lib.compareInt x1 y1) W2.heap.size 3 _ (Blk.drew (Blk.new W2 3 #[.int .i64 (Lib.compareInt x0 y0),.int .i64 (Lib.compareInt x1 y1)] _ rfl))).mono ?_;rintro e wq ⟨rfl,rfl⟩;go_wp2_with fail
 refine hK.out _ _ (HSS.out _ (bQ.drew.alloc nL _)) (fun hHeld=>?_);clear hK K;try simp only[Act.put,lsa,lsz,lss]
 refine tkM 1 [12] ?_;refine wdn ?_;go_wp2_with fail
 go_ret;exact ⟨rfl,1,_,by rw[HW.out,alloc_eq_grow,alloc_eq_grow,grow_grow,alloc_eq_grow,grow_grow,drew_grow];rfl⟩
theorem x75 (x y:Stg) (W:World):Calls Tryz.prog 40 #[.agg (z3m x).toArray,.agg (z3m y).toArray] W fun e w'=>e=.returned (.int .i64 (cfG x y))∧∃ q os',w' = grow (W.drewN q) os':=by
 have hc:=Tryz.cmp_Compare_int;obtain ⟨x0,x1⟩:=x;obtain ⟨y0,y1⟩:=y;unfold z3m cfG;dsimp only;obtain ⟨W2,hW2⟩:∃ V,V=(W.alloc (.cells #[.int .i64 x0,.int .i64 x1] 78)).alloc (.cells #[.int .i64 y0,.int .i64 y1] 78):=⟨_,rfl⟩
 have ha:Blk W2 W.heap.size 78 #[.int .i64 x0,.int .i64 x1]:=by rw[hW2];exact (Blk.new _ _ _ _ rfl).alloc _
 have hb:Blk W2 (W.heap.size+1) 78 #[.int .i64 y0,.int .i64 y1]:=by rw[hW2];exact Blk.new _ _ _ _ (by simp)
 have a0:=ha.cell 0;have a1:=ha.cell 1;have b0:=hb.cell 0;have b1:=hb.cell 1;have la:=ha.lt;have lb:=hb.lt;simp only[gqA,gqZ,gqS] at a0 a1 b0 b1;clear ha hb;go_enter Tryz.func40,Tryz.ntmps40
 go_wp2_with fail;rw[←hW2];have HW:=hE hW2;clear hW2;have HSS:Hid (∀ V,Below W2.heap.size W2 V→(fun w'=>w'.cell? ⟨W.heap.size,0,none⟩=some (.int .i64 x0)∧w'.cell? ⟨W.heap.size,1,none⟩=some (.int .i64 x1)∧w'.cell? ⟨W.heap.size+1,0,none⟩=some (.int .i64 y0)∧w'.cell? ⟨W.heap.size+1,1,none⟩=some (.int .i64 y1)∧Below W2.heap.size W2 w') V):=hE fun V h=>⟨(h.cell (p:=⟨W.heap.size,0,none⟩) la).trans a0,(h.cell (p:=⟨W.heap.size,1,none⟩) la).trans a1,(h.cell (p:=⟨W.heap.size+1,0,none⟩) lb).trans b0,(h.cell (p:=⟨W.heap.size+1,1,none⟩) lb).trans b1,h⟩
 clear a0 a1 b0 b1;refine rgS 13 HSS fun hHeld=>?_
 refine tkM 8 [0,1,2,3,5,6,7,8] ?_;refine rd1 4 rfl fun K hK=>?_
 go_simp;go_at_call 42
 refine (hc _ _ _).mono ?_;rintro e wq ⟨rfl,rfl⟩;go_wp2_with fail
 refine hK.out _ _ (HSS.out _ bQ.drew) (fun hHeld=>?_);clear hK K;try simp only[Act.put,lsa,lsz,lss]
 refine rd1 9 rfl fun K hK=>?_
 go_simp;go_at_call 42
 refine (hc _ _ _).mono ?_;rintro e wq ⟨rfl,rfl⟩;go_wp2_with fail
 refine hK.out _ _ (HSS.out _ bQ.drew) (fun hHeld=>?_);clear hK K;try simp only[Act.put,lsa,lsz,lss]
 refine rd1 10 rfl fun K hK=>?_
 go_simp;refine hK.out _ _ (HSS.out _ (bQ.drew.alloc nL _)) (fun hHeld=>?_);clear hK K;try simp only[Act.put,lsa,lsz,lss]
 refine rd1 11 rfl fun K hK=>?_
 go_simp;go_at_call 41
 refine (x4u (Lib.compareInt x0 y0) (Lib.compareInt x1 y1) W2.heap.size 3 _ (Blk.drew (Blk.new W2 3 #[.int .i64 (Lib.compareInt x0 y0),.int .i64 (Lib.compareInt x1 y1)] _ rfl))).mono ?_;rintro e wq ⟨rfl,rfl⟩;go_wp2_with fail
 refine hK.out _ _ (HSS.out _ (bQ.drew.alloc nL _)) (fun hHeld=>?_);clear hK K;try simp only[Act.put,lsa,lsz,lss]
 refine tkM 1 [12] ?_;refine wdn ?_;go_wp2_with fail
 go_ret;exact ⟨rfl,1,_,by rw[HW.out,alloc_eq_grow,alloc_eq_grow,grow_grow,alloc_eq_grow,grow_grow,drew_grow];rfl⟩
theorem x76 (x y:Stg) (W:World):Calls Tryz.prog 113 #[.agg (z3m x).toArray,.agg (z3m y).toArray] W fun e w'=>e=.returned (.int .i64 (cfG x y))∧∃ q os',w' = grow (W.drewN q) os':=by
 have hc:=Tryz.cmp_Compare_int;obtain ⟨x0,x1⟩:=x;obtain ⟨y0,y1⟩:=y;unfold z3m cfG;dsimp only;obtain ⟨W2,hW2⟩:∃ V,V=(W.alloc (.cells #[.int .i64 x0,.int .i64 x1] 78)).alloc (.cells #[.int .i64 y0,.int .i64 y1] 78):=⟨_,rfl⟩
 have ha:Blk W2 W.heap.size 78 #[.int .i64 x0,.int .i64 x1]:=by rw[hW2];exact (Blk.new _ _ _ _ rfl).alloc _
 have hb:Blk W2 (W.heap.size+1) 78 #[.int .i64 y0,.int .i64 y1]:=by rw[hW2];exact Blk.new _ _ _ _ (by simp)
 have a0:=ha.cell 0;have a1:=ha.cell 1;have b0:=hb.cell 0;have b1:=hb.cell 1;have la:=ha.lt;have lb:=hb.lt;simp only[gqA,gqZ,gqS] at a0 a1 b0 b1;clear ha hb;go_enter Tryz.func113,Tryz.ntmps113
 go_wp2_with fail;rw[←hW2];have HW:=hE hW2;clear hW2;have HSS:Hid (∀ V,Below W2.heap.size W2 V→(fun w'=>w'.cell? ⟨W.heap.size,0,none⟩=some (.int .i64 x0)∧w'.cell? ⟨W.heap.size,1,none⟩=some (.int .i64 x1)∧w'.cell? ⟨W.heap.size+1,0,none⟩=some (.int .i64 y0)∧w'.cell? ⟨W.heap.size+1,1,none⟩=some (.int .i64 y1)∧Below W2.heap.size W2 w') V):=hE fun V h=>⟨(h.cell (p:=⟨W.heap.size,0,none⟩) la).trans a0,(h.cell (p:=⟨W.heap.size,1,none⟩) la).trans a1,(h.cell (p:=⟨W.heap.size+1,0,none⟩) lb).trans b0,(h.cell (p:=⟨W.heap.size+1,1,none⟩) lb).trans b1,h⟩
 clear a0 a1 b0 b1;refine rgS 13 HSS fun hHeld=>?_
 refine tkM 8 [0,1,2,3,5,6,7,8] ?_;refine rd1 4 rfl fun K hK=>?_
 go_simp;go_at_call 42
 refine (hc _ _ _).mono ?_;rintro e wq ⟨rfl,rfl⟩;go_wp2_with fail
 refine hK.out _ _ (HSS.out _ bQ.drew) (fun hHeld=>?_);clear hK K;try simp only[Act.put,lsa,lsz,lss]
 refine rd1 9 rfl fun K hK=>?_
 go_simp;go_at_call 42
 refine (hc _ _ _).mono ?_;rintro e wq ⟨rfl,rfl⟩;go_wp2_with fail
 refine hK.out _ _ (HSS.out _ bQ.drew) (fun hHeld=>?_);clear hK K;try simp only[Act.put,lsa,lsz,lss]
 refine rd1 10 rfl fun K hK=>?_
 go_simp;refine hK.out _ _ (HSS.out _ (bQ.drew.alloc nL _)) (fun hHeld=>?_);clear hK K;try simp only[Act.put,lsa,lsz,lss]
 refine rd1 11 rfl fun K hK=>?_
 go_simp;go_at_call 41
 refine (x4u (Lib.compareInt x0 y0) (Lib.compareInt x1 y1) W2.heap.size 3 _ (Blk.drew (Blk.new W2 3 #[.int .i64 (Lib.compareInt x0 y0),.int .i64 (Lib.compareInt x1 y1)] _ rfl))).mono ?_;rintro e wq ⟨rfl,rfl⟩;go_wp2_with fail
 refine hK.out _ _ (HSS.out _ (bQ.drew.alloc nL _)) (fun hHeld=>?_);clear hK K;try simp only[Act.put,lsa,lsz,lss]
 refine tkM 1 [12] ?_;refine wdn ?_;go_wp2_with fail
 go_ret;exact ⟨rfl,1,_,by rw[HW.out,alloc_eq_grow,alloc_eq_grow,grow_grow,alloc_eq_grow,grow_grow,drew_grow];rfl⟩
end Go.Proofs.YtpenlfedkacglaaGreatDoor
