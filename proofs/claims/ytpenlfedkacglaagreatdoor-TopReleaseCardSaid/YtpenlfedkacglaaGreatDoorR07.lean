import Derived.Test.YtpenlfedkacglaaGreatDoorR06
import Derived.Ground.Names2Prog
import Derived.Ground.SlgfProg
import Derived.Ground.SlgnProg
import Derived.Ground.SlgqProg
import Derived.Ground.SlsfProg
import Derived.Shelf.LaysM
import Derived.Shelf.SlGeneric
import Derived.Shelf.SlSortCmp.NoneTotal
import Derived.Shelf.Slices.Cells
import Derived.Shelf.Slices.Clone
import Derived.Shelf.Slices.CompactI
import Derived.Shelf.Slices.In.SortNone
import Derived.Shelf.Slices.SearchI
import Derived.Shelf.Slices.Turned
import Derived.Shelf.SlicesE.Clone
import Derived.Shelf.SlicesE.IndexFunc
import Derived.Shelf.SlicesQ.Contains
import Derived.Shelf.SlicesQ.IndexFunc
import Derived.Shelf.Small.Bits
import Derived.Shelf.Small.Wraps
import Derived.Shelf.Sort.Plain
import Derived.Shelf.Strconv.Itoa0
import Derived.Shelf.Strconv.Itoa1
import Derived.Shelf.Strconv.Itoa2
import Derived.Shelf.Strconv.Itoa3
import Derived.Test.YtpenlfedkacglaaGreatDoorProg
set_option maxRecDepth 100000
set_option maxHeartbeats 40000000
set_option linter.all false
namespace Go.Proofs.YtpenlfedkacglaaGreatDoor
open Go.RowKit
attribute [local go_sem] z05 z09 z01 z02
attribute [-go_sem] run_equalIn_agg
theorem x5k {l:Lay} {n:Int} {way:List Stp} {k:Nat} (h:k < way.length):z96 l n (way.drop k)=z96 l (if z2u l way[k].el=true then n+z6m l way[k].el else n) (way.drop (k+1)):=by
 rw[List.drop_eq_getElem_cons h];rfl
theorem y9m (v:LV) (hk:z98 v.l) (way:List Stp) (A:Option Addr) (cap:Nat) (w:World) (hr:LvR w v) (hw:RdS z1i w (Lt w) A way) (hl:way.length≤1000):Calls Tryz.prog 93 #[lvA v,.slice A way.length cap] w fun e w'=>e=.returned (.int .i64 (z1j v.l way))∧Below w.heap.size w w':=by
 have hbx:=Lx.new hr;have HK:=hE hk;have hn:=hr.n2.1;unfold maxLen at hn;unfold lvA;clear hk;go_enter Tryz.func93,Tryz.ntmps93
 go_wp2_with fail;go_loopw [5,10] (fun a i wr=>∃ (k:Nat) (n:Int),k≤way.length∧i=.int .i64 k∧a=.int .i64 n∧Lx w wr v∧(0≤n∧n≤1000000*k)∧Hid (z96 v.l n (way.drop k)=z1j v.l way)) (fun _ i _=>way.length - (intOf i).toNat)
 case atStart=>exact ⟨0,0,nZ,rfl,rfl,hbx,⟨by omega,by omega⟩,hE rfl⟩
 case round=>
  obtain ⟨k,n,hkl,rfl,rfl,hb,hnb,HR⟩:=hrel;clear hbx;by_cases hlt:k < way.length
  ·have hki:(k:Int) < (way.length:Int):=by omega
   obtain ⟨b,off,hA,lb,ho,y0,y1,y2⟩:=(hw.now hb.bel).elT hlt;have HS:=hE (x5k (l:=v.l) (n:=n) hlt);have hb1:=hb.alloc (.cells #[.int .i64 way[k].el,.int .i64 way[k].inn,.int .i64 way[k].out] 85);rw[hA];clear hA ho;generalize way[k]=s at *;obtain ⟨el,inn,out⟩:=s;dsimp only at *;obtain ⟨W1,hW1⟩:∃ W,W=wr.alloc (.cells #[.int .i64 el,.int .i64 inn,.int .i64 out] 85):=⟨_,rfl⟩
   have hs1:Blk W1 wr.heap.size 85 #[.int .i64 el,.int .i64 inn,.int .i64 out]:=by rw[hW1];exact Blk.new _ _ _ _ rfl
   rw[←hW1] at hb1;have g0:=hb.x0;have g1:=hb.x1;have g2:=hb.x2;have g3:=hb.x3;have g4:=hb.x4;have g5:=hb.x5;have lg:=hb.lt
   cases he:z2u v.l el with
   | false=>
    have HX:Hid (z96 v.l n (way.drop (k+1))=z1j v.l way):=hE (by rw[←HR.out,HS.out,he];rfl);have HE:=hE (z4l v el he W1 hb1.rd);clear HS HR he;go_wp2_with fail
    rw[←hW1];refine HE.out.mono ?_;rintro e w3 ⟨rfl,hq⟩;have hb3:=hb1.now hq;clear hW1 g0 g1 g2 g3 g4 g5 lg y0 y1 y2;go_wp2_with fail
    go_roundw
    case rel=>exact ⟨k+1,n,by omega,by go_num,rfl,hb3,⟨hnb.1,by omega⟩,HX⟩
    case measure=>simp[intOf];omega
   | true=>
    have hlk:=HK.out.el _ he;have hlx:500≤z6m v.l el∧z6m v.l el≤1000000:=⟨hlk.2.1,hlk.2.2.1⟩
    have HX:Hid (z96 v.l (n+z6m v.l el) (way.drop (k+1))=z1j v.l way):=hE (by rw[←HR.out,HS.out,he];rfl);obtain ⟨m,rfl,hmlt⟩:=z5a he;have HE:=hE (z4l v m he W1 hb1.rd);rw[x7r hmlt] at hlx HX;clear HS HR he hlk;go_wp2_with fail
    rw[←hW1];refine HE.out.mono ?_;rintro e w3 ⟨rfl,hq⟩;have hb3:=hb1.now hq;have hs3:=hs1.now hq;obtain ⟨b2,off2,hA2,lb2,ho2,q0,q1,q2,q3,q4,q5,q6⟩:=hb3.rd.r2.elE hmlt;have x2:=hb3.x2;rw[hA2] at x2;have z0:=hs3.cell 0;simp only[gqA,gqZ,gqS] at z0;have hmi:(m:Int) < (v.l.els.length:Int):=by omega
    clear hA2 hW1 g0 g1 g2 g3 g4 g5 lg y0 y1 y2 q0 q1 q3 q4 q5 q6 ho2 hs1 hs3 hb hb1 hq HE;generalize v.l.els[m].len=len at *;have hwrap:IntKind.i64.wrap (n+len)=n+len:=IntWalk.i64_in _ (by omega);go_wp2_with fail
    go_roundw
    case rel=>exact ⟨k+1,n+len,by omega,by go_num,by first | rfl | (rw[hwrap]),hb3,⟨by omega,by omega⟩,HX⟩
    case measure=>simp[intOf];omega
  ·have HX:Hid (n=z1j v.l way):=hE (by rw[←HR.out,List.drop_of_length_le (by omega)];rfl);have hbb:=hb.bel;go_wp2_with fail
   go_ret;exact ⟨z0i HX.out,hbb⟩
theorem z8v.frm {P:Program} {k e:TypeId} {w w':World} {b n base:Nat} {T:TypeId} {ks:List Lit} (h:z8v P k e w b n ks) (hf:Frm base T w w'):z8v P k e w' b n ks:=by
 obtain ⟨⟨es,ck,h1,h2⟩,h3⟩:=h;exact ⟨⟨es,ck,hf.obj b _ h1 (fun cs fr hx=>by cases hx),h2⟩,h3⟩
theorem z07.map {α:Type} {c:Cod α} {P:Program} {k e:TypeId} {w w':World} {base b n:Nat} {T:TypeId} {v:Value} {l:List α} {ks:List Lit} (h:z07 c w base T v l 0) (hm:z8v P k e w b n ks) (hg:w.grownBy w' (some b)):z07 c w' base T v l 0:=by
 obtain ⟨xs,h1,h2,h3⟩:=h;obtain ⟨⟨es,ck,hmb,_⟩,_⟩:=hm;refine ⟨xs,⟨h1.1,?_⟩,(h2.keep fun p hp=>absurd hp.1 (Nat.not_lt_zero _)).more fun b hb=>absurd hb.1 (Nat.not_lt_zero _),nZ⟩;rcases h1.2 with h | ⟨g,cap,cur,hv,hb,hgk,h4⟩
 ·exact Or.inl h
 ·refine Or.inr ⟨g,cap,cur,hv,hb,(hg.block g (z0k hgk) ?_).trans hgk,h4⟩;intro he;obtain rfl:g=b:=sJ he;rw[hgk] at hmb;cases hmb
theorem Lx.frm {w0 w w':World} {v:LV} {T:TypeId} (h:Lx w0 w v) (hr:LvR w0 v) (hf:Frm w0.heap.size T w w') (hT:28≠T):Lx w0 w' v:=
 have hb:=hf.keeps nL h.bel.size h.bel
 ⟨hb,hf.blk h.blk hT,hr.now hb⟩
theorem x50 {l:Lay} {acc:List Int} {way:List Stp} {k:Nat} (h:k < way.length):z7a l acc (way.drop k)=z7a l (if z2u l way[k].el=true∧z0d l way[k].el∉acc then acc++[z0d l way[k].el] else acc) (way.drop (k+1)):=by
 rw[List.drop_eq_getElem_cons h];rfl
theorem x4z {l:Lay} {n:Nat} (h:n < l.els.length):z0d l (n:Int)=l.els[n].sec:=y9d h
theorem z8s (v:LV) (way:List Stp) (A:Option Addr) (cap:Nat) (w:World) (hr:LvR w v) (hw:RdS z1i w (Lt w) A way) (hl:way.length≤1000):Calls Tryz.prog 49 #[lvA v,.slice A way.length cap] w (y4c cI 3 w (z0x v.l way)):=by
 obtain ⟨i0,hi,hz0,hz1,hz2⟩:=info_parts z3b;have hmm:=@run_makeMap Tryz.prog;have hn:=hr.n2.1;unfold maxLen at hn;unfold lvA;obtain ⟨W0,hW0⟩:∃ W,W=(w.alloc (.cells (z1b v) 28)).alloc (.map #[] 0):=⟨_,rfl⟩
 obtain ⟨B,hB⟩:∃ B,B=w.heap.size+1:=⟨_,rfl⟩
 have hbx:Lx w W0 v:=by rw[hW0];exact (Lx.new hr).alloc _
 have hset:z8v Tryz.prog 3 4 W0 B 0 []:=by rw[hW0,hB];exact z8v.made _ _ _ _ _ (by simp)
 have hBg:w.heap.size < B:=by omega
 go_enter Tryz.func49,Tryz.ntmps49
 go_wp2_with fail;rw[←hW0,←hB];clear hmm hW0 hB;go_loopw [5,13] (fun a i wr=>∃ (k:Nat) (acc:List Int),k≤way.length∧i=.int .i64 k∧z07 cI wr w.heap.size 3 a acc 0∧Lx w wr v∧z8v Tryz.prog 3 4 wr B acc.length (acc.map (Lit.int .i64))∧acc.length≤k∧Hid (z7a v.l acc (way.drop k)=z0x v.l way)) (fun _ i _=>way.length - (intOf i).toNat)
 case atStart=>exact ⟨0,[],nZ,rfl,z07.nil _ _ _ _ nZ,hbx,hset,nZ,hE rfl⟩
 case round=>
  obtain ⟨k,acc,hkl,rfl,hown,hb,hst,hacc,HR⟩:=hrel;clear hbx hset;by_cases hlt:k < way.length
  ·have hki:(k:Int) < (way.length:Int):=by omega
   obtain ⟨b,off,hA,lb,ho,y0,y1,y2⟩:=(hw.now hb.bel).elT hlt;have HS:=hE (x50 (l:=v.l) (acc:=acc) hlt);have hal:Below wr.heap.size wr (wr.alloc (.cells #[.int .i64 way[k].el,.int .i64 way[k].inn,.int .i64 way[k].out] 85)):=bQ.alloc nL _;rw[hA];clear hA ho;generalize way[k]=s at *;obtain ⟨el,inn,out⟩:=s;dsimp only at *;obtain ⟨W1,hW1⟩:∃ W,W=wr.alloc (.cells #[.int .i64 el,.int .i64 inn,.int .i64 out] 85):=⟨_,rfl⟩
   have hs1:Blk W1 wr.heap.size 85 #[.int .i64 el,.int .i64 inn,.int .i64 out]:=by rw[hW1];exact Blk.new _ _ _ _ rfl
   rw[←hW1] at hal;have hb1:=hb.now hal;have g0:=hb.x0;have g1:=hb.x1;have g2:=hb.x2;have g3:=hb.x3;have g4:=hb.x4;have g5:=hb.x5;have lg:=hb.lt
   cases he:z2u v.l el with
   | false=>
    have HX:Hid (z7a v.l acc (way.drop (k+1))=z0x v.l way):=hE (by rw[←HR.out,HS.out,if_neg (by rw[he];simp)]);have HE:=hE (z4l v el he W1 hb1.rd);clear HS HR he;go_wp2_with fail
    rw[←hW1];refine HE.out.mono ?_;rintro e w3 ⟨rfl,hq⟩;have hb3:=hb1.now hq;have hst3:=(hst.now hal).now hq;have hown3:=(hown.now hal).now hq;clear hW1 g0 g1 g2 g3 g4 g5 lg y0 y1 y2 hown hst;go_wp2_with fail
    go_roundw
    case rel=>exact ⟨k+1,acc,by omega,by go_num,hown3,hb3,hst3,by omega,HX⟩
    case measure=>simp[intOf];omega
   | true=>
    obtain ⟨m,rfl,hmlt⟩:=z5a he;have HE:=hE (z4l v m he W1 hb1.rd);have HSM:=hE (x4z hmlt);have HHE:=hE he;clear he;go_wp2_with fail
    rw[←hW1];refine HE.out.mono ?_;rintro e w3 ⟨rfl,hq⟩;have hb3:=hb1.now hq;have hs3:=hs1.now hq;have hst3:=(hst.now hal).now hq;have hown3:=(hown.now hal).now hq;have hsz3:=hb3.bel.size;obtain ⟨b2,off2,hA2,lb2,ho2,q0,q1,q2,q3,q4,q5,q6⟩:=hb3.rd.r2.elE hmlt;have x2:=hb3.x2;rw[hA2] at x2;have z0:=hs3.cell 0;simp only[gqA,gqZ,gqS] at z0;have hmi:(m:Int) < (v.l.els.length:Int):=by omega
    have hI:z0p v.l.els[m].sec:=ho2.2.2.2.2.2.2;rw[HSM.out] at HS;clear hA2 hW1 g0 g1 g2 g3 g4 g5 lg y0 y1 y2 q0 q1 q2 q3 q4 q5 ho2 hs1 hs3 hb hb1 hq HE hown hst hal HSM;generalize v.l.els[m].sec=sc at *;have hkey:=hE (x3a sc hI);have hany:=any_int acc sc;have HI:=hE hI
    cases hd:decide (sc∈acc) with
    | true=>
     have HX:Hid (z7a v.l acc (way.drop (k+1))=z0x v.l way):=hE (by rw[←HR.out,HS.out,if_neg (fun h=>h.2 (oDt hd))]);have HAN:=hE (hany.trans hd);have HST:=hE hst3;clear hd hany HS HR hI;obtain ⟨ks,hks⟩:∃ x,x=acc.map (Lit.int .i64):=⟨_,rfl⟩
     rw[←hks] at hst3 HAN;have HKE:=hE hks;clear hks;go_wp2_with (at_lookup;go_loud (refine z0t _ rfl _ _ 165 rfl 3 4 y2c Tryz.underlying165 Tryz.underlying4 (z4m _) B acc.length ks rfl hst3 _ _ rfl hkey.out true HAN.out ?_))
     go_roundw
     case rel=>exact ⟨k+1,acc,by omega,by go_num,hown3,hb3,by rw[←HKE.out];exact hst3,by omega,HX⟩
     case measure=>simp[intOf];omega
    | false=>
     have HX:Hid (z7a v.l (acc++[sc]) (way.drop (k+1))=z0x v.l way):=hE (by rw[←HR.out,HS.out,if_pos ⟨HHE.out,of_decide_eq_false hd⟩]);have HAN:=hE (hany.trans hd);have HKS:Hid ((acc++[sc]).map (Lit.int .i64)=acc.map (Lit.int .i64)++[.int .i64 sc]):=hE (by simp);clear hd hany HS HR hI;generalize acc.map (Lit.int .i64)=ks at *;go_wp2_with (first | (at_lookup;go_loud (refine z0t _ rfl _ _ 165 rfl 3 4 y2c Tryz.underlying165 Tryz.underlying4 (z4m _) B acc.length ks rfl hst3 _ _ rfl hkey.out false HAN.out ?_)) | (at_mapUpdate;go_loud (refine z3c _ rfl _ _ _ 165 rfl 3 4 y2c Tryz.underlying165 Tryz.underlying4 B acc.length ks rfl hst3 (by unfold maxLen;omega) _ _ rfl rfl hkey.out ?_);intro w6 hst6 hgr6;have hown6:=hown3.map hst3 hgr6;have hb6:=hb3.grown hr hgr6 hBg;have hsz6:=hb6.bel.size) | (at_builtin;go_loud (refine z0g (c:=cI) _ rfl _ _ 31 rfl w.heap.size 3 i0 (.int .i64 0) 8 Tryz.underlying31 hi hz0 hz1 hz2 rfl (by decide) _ acc 0 rfl hown6 [.int .i64 sc] sc ⟨rfl,HI.out⟩ (by intro u hu;simp at hu;subst hu;rfl) _ rfl (by omega) (by omega) (by omega) ?_);intro v' w7 hown7 hf7 hs7))
     go_roundw
     case rel=>exact ⟨k+1,acc++[sc],by omega,by go_num,hown7,hb6.frm hr hf7 (by decide),by rw[HKS.out,qL];exact hst6.frm hf7,by simp;omega,HX⟩
     case measure=>simp[intOf];omega
  ·have HX:Hid (acc=z0x v.l way):=hE (by rw[←HR.out,List.drop_of_length_le (by omega)];rfl);have HO:=hE hown;obtain ⟨A',c',hv⟩:=hown.form;have hbb:=hb.bel;clear hown hb hst;subst hv;go_wp2_with fail
   go_ret;exact z0y HX.out rfl HO.out hbb
theorem x7o {k i:Int}:∀ x∈z6w k i,z0p x:=by
 intro x hx;unfold z6w at hx;obtain ⟨p,hp,rfl⟩:=List.mem_map.1 hx;have hp:=(List.mem_filter.1 hp).1;have:∀ q∈z2f,0≤q.2.2.1∧q.2.2.1≤3:=by decide
 have:=this p hp;exact ⟨by omega,by omega⟩
theorem x7p (k i:Int):(z6w k i).length≤10:=x3j k i 10
theorem j8k {k i:Int} {r:List Int} (h:z6w k i=r) (w:World) (E:EnvR w):Calls Tryz.prog 125 #[.int .i64 k,.int .i64 i] w (y4c cI 3 w r):=h▸y8i k i w E
theorem z07.rdn {α:Type} {c:Cod α} {w:World} {base:Nat} {T:TypeId} {A:Option Addr} {cap:Nat} {l:List α} (h:z07 c w base T (.slice A l.length cap) l 0):(l.length≤maxLen∧l.length≤cap)∧RdS c w (fun b=>base≤b∧b < w.heap.size) A l:=by
 obtain ⟨xs,h1,h2,h3⟩:=h;rcases h1.2 with ⟨hv,h0⟩ | ⟨g,cap',cur,hv,hb,hg,hcap,hm,htake⟩
 ·simp only[Value.slice.injEq] at hv;obtain ⟨rfl,hl,rfl⟩:=hv;have:l=[]:=List.eq_nil_of_length_eq_zero (by omega);subst this;exact ⟨⟨nZ,nL⟩,fun hl=>absurd hl (Nat.lt_irrefl _)⟩
 ·simp only[Value.slice.injEq] at hv;obtain ⟨rfl,-,rfl⟩:=hv;refine ⟨⟨nR hcap hm,hcap⟩,fun _=>⟨g,0,rfl,⟨hb,z0k hg⟩,fun i x hx=>?_⟩⟩;obtain ⟨ys,h4,h5⟩:=h2.get hx;refine ⟨ys,c.more h4 fun b hb=>absurd hb.1 (Nat.not_lt_zero _),fun j u hu=>?_⟩;have h6:=h5 j u hu;rw[Nat.zero_add,cell_of_row w g _ cur T (0,0) hg];rw[←htake.2,List.getElem?_take] at h6;split at h6
  ·simpa using h6
  ·cases h6
theorem z2z:(Tryz.prog.info? 85).map (fun i=>(i.zero,i.size,i.bytes))=some (some (.agg #[.int .i64 0,.int .i64 0,.int .i64 0]),3,24):=by kernel_rfl
theorem z8m (v:LV) (e:z0o) (he64:z0p e.el∧z0p e.sd) (w:World) (E:EnvR w) (hr:LvR w v):Calls Tryz.prog 96 #[lvA v,.agg #[.int .i64 e.el,.int .i64 e.sd]] w (y4c z1i 85 w (brF v.l e)):=by
 obtain ⟨i0,hi,hz0,hz1,hz2⟩:=info_parts z2z;obtain ⟨el,sd⟩:=e;dsimp only at *;obtain ⟨W2,hW2⟩:∃ W,W=(w.alloc (.cells (z1b v) 28)).alloc (.cells #[.int .i64 el,.int .i64 sd] 90):=⟨_,rfl⟩
 have hbx:Lx w W2 v:=by rw[hW2];exact (Lx.new hr).alloc _
 have hx1:Blk W2 (w.heap.size+1) 90 #[.int .i64 el,.int .i64 sd]:=by rw[hW2];exact Blk.new _ _ _ _ (by simp)
 have hn:=hr.n2.1;unfold maxLen at hn;unfold lvA
 cases he:z2u v.l el with
 | false=>
  have HX:Hid ([]=brF v.l ⟨el,sd⟩):=hE (by unfold brF;dsimp only;rw[he];rfl);have HE:=hE (z4l v el he W2 hbx.rd);clear he;go_enter Tryz.func96,Tryz.ntmps96
  go_wp2_with fail;rw[←hW2];refine HE.out.mono ?_;rintro e w3 ⟨rfl,hq⟩;have hb3:=z00 hbx.bel hbx.bel.size hq;clear hW2;go_wp2_with fail
  go_ret
  exact z0y HX.out rfl (z07.nil _ _ _ _ nZ) hb3
 | true=>
  obtain ⟨n,rfl,hlt⟩:=z5a he;have HE:=hE (z4l v n he W2 hbx.rd);obtain ⟨r,hr2⟩:∃ r,z6w v.l.els[n].kind sd=r:=⟨_,rfl⟩
  have HX:Hid (r.map (fun o=>(⟨(n:Int),sd,o⟩:Stp))=brF v.l ⟨(n:Int),sd⟩):=hE (by unfold brF;dsimp only;rw[he,if_pos rfl,z5r hlt,hr2]);have HN:=hE fun W E=>j8k hr2 W E
  have HI:Hid (∀ x∈r,z0p x):=hE (by rw[←hr2];exact x7o);have hrl:r.length≤10:=by rw[←hr2];exact x7p _ _
  go_enter Tryz.func96,Tryz.ntmps96
  go_wp2_with fail;rw[←hW2];refine HE.out.mono ?_;rintro e w3 ⟨rfl,hq⟩;have hb3:=hbx.now hq;have hx3:=hx1.now hq;obtain ⟨b,off,hA,lb,ho,y0,y1,y2,y3,y4,y5,y6⟩:=hb3.rd.r2.elE hlt;have E3:=E.now hb3.bel;have hbb:=hb3.bel;have x2:=hb3.x2;rw[hA] at x2;have z0:=hx3.cell 0;have z1:=hx3.cell 1;have lz:=hx3.lt;have hz3:=hx3;simp only[gqA,gqZ,gqS] at z0 z1;have lb':b < w3.heap.size:=lb;have hki:(n:Int) < (v.l.els.length:Int):=by omega
  clear hA hW2 hbx hx1 hb3 hx3 HE hq y0 y2 y3 y4 y5 y6 ho he E hr2;generalize v.l.els[n].kind=kd at *;go_upto_region 4 with (fail)
  have HSS:Hid (∀ W,Below w3.heap.size w3 W→(fun w'=>w'.cell? ⟨w.heap.size,2,none⟩=some (.slice (some ⟨b,off,none⟩) v.l.els.length v.c2)∧w'.cell? ⟨w.heap.size+1,0,none⟩=some (.int .i64 n)∧w'.cell? ⟨w.heap.size+1,1,none⟩=some (.int .i64 sd)∧w'.cell? ⟨b,off+n*7+1,none⟩=some (.int .i64 kd)∧Below w3.heap.size w3 w') W):=hE fun W h=>⟨(h.cell (p:=⟨w.heap.size,2,none⟩) (show w.heap.size < w3.heap.size by omega)).trans x2,(h.cell (p:=⟨w.heap.size+1,0,none⟩) lz).trans z0,(h.cell (p:=⟨w.heap.size+1,1,none⟩) lz).trans z1,(h.cell (p:=⟨b,off+n*7+1,none⟩) lb').trans y1,h⟩
  clear x2 z0 z1 y1;refine rgS 12 HSS fun hHeld=>?_
  refine tkM 10 [0,1,2,3,4,5,6,7,8,11] ?_;refine rd1 9 rfl fun K hK=>?_
  go_simp;go_at_call 125
  refine (HN.out _ (E3.now bQ.drew)).mono ?_;rintro e wq ⟨A5,c5,rfl,hown5,hqq⟩;have hbq:Below w3.heap.size w3 wq:=bQ.drew.trans hqq;have hrd:=(hown5.rdn).2;go_wp2_with fail
  refine hK.out _ _ (HSS.out _ hbq) (fun hHeld=>?_);clear hK K;try simp only[Act.put,lsa,lsz,lss]
  refine tkM 1 [10] ?_;refine wdn ?_;have hbz:=z00 hbb hbb.size hbq;have hz5:=hz3.now hbq;have hrl5:=hown5.rdn.1;have hwz:w.heap.size≤wq.heap.size:=hbz.size;have hro:RdS cI wq (fun b=>w3.heap.size≤b∧b < wq.heap.size) A5 r:=hrd;have hs5:w3.heap.size≤wq.heap.size:=hbq.size;clear HSS hHeld hbq hown5 hrd hz3;go_wp2_with fail
  go_loopw [5,24] (fun a i wr=>∃ k:Nat,k≤r.length∧i=.int .i64 k∧z07 z1i wr wq.heap.size 85 a ((r.take k).map fun o=>(⟨(n:Int),sd,o⟩:Stp)) 0∧Below wq.heap.size wq wr) (fun _ i _=>r.length - (intOf i).toNat)
  case atStart=>exact ⟨0,nZ,rfl,z07.nil _ _ _ _ nZ,bQ⟩
  case round=>
   obtain ⟨k,hk,rfl,hown,hb⟩:=hrel;have hsz:=hb.size;by_cases hlt2:k < r.length
   ·have hki2:(k:Int) < (r.length:Int):=by omega
    obtain ⟨b3,off3,hA3,lb3,ho3,q0⟩:=(hro.keep fun p hp=>hb.cell hp.2).elI hlt2;have HT:Hid ((r.take (k+1)).map (fun o=>(⟨(n:Int),sd,o⟩:Stp))=(r.take k).map (fun o=>(⟨(n:Int),sd,o⟩:Stp))++[⟨(n:Int),sd,r[k]⟩]):=hE (map_take _ hlt2);have hkl:((r.take k).map fun o=>(⟨(n:Int),sd,o⟩:Stp)).length≤10:=by simp;omega
    have hz6:=hz5.now hb;have z0:=hz6.cell 0;have z1:=hz6.cell 1;simp only[gqA,gqZ,gqS] at z0 z1;have HO:Hid (z0p (n:Int)∧z0p sd∧z0p r[k]):=hE ⟨he64.1,he64.2,ho3⟩;rw[hA3];clear hA3 ho3 hz6;generalize r[k]=x at *;generalize (r.take k).map (fun o=>(⟨(n:Int),sd,o⟩:Stp))=acc at *;go_wp2_with (at_builtin;go_loud (refine z0g (c:=z1i) _ rfl _ _ 52 rfl wq.heap.size 85 i0 _ 24 Tryz.underlying52 hi hz0 hz1 hz2 rfl (by decide) _ acc 0 rfl hown [.int .i64 n,.int .i64 sd,.int .i64 x] ⟨(n:Int),sd,x⟩ ⟨rfl,HO.out⟩ (by intro u hu;simp at hu;rcases hu with rfl | rfl | rfl <;> rfl) _ rfl (by omega) (by omega) (by omega) ?_);intro v' w7 hown7 hf7 hs7)
    go_roundw
    case rel=>exact ⟨k+1,by omega,by go_num,by rw[HT.out];exact hown7,hf7.keeps nL hsz hb⟩
    case measure=>simp[intOf];omega
   ·have HY:Hid ((r.take k).map (fun o=>(⟨(n:Int),sd,o⟩:Stp))=brF v.l ⟨(n:Int),sd⟩):=hE (by rw[tlL (by omega)];exact HX.out);have hbe:=z00 hbz hwz hb;obtain ⟨A',c',hv⟩:=hown.form;have HO:=hE (hown.lower hwz);clear hown;generalize (r.take k).map (fun o=>(⟨(n:Int),sd,o⟩:Stp))=acc at *;subst hv;go_wp2_with fail
    go_ret;exact z0y HY.out rfl HO.out hbe
theorem y2e (r:Option z0o):∃ a b c,z6v r=.tuple #[.agg #[.int .i64 a,.int .i64 b],.bool c]:=⟨_,_,_,rfl⟩
theorem j8j {l:List Jnt} {r:Option z0o} (v:LV) (x:z0o) (hv:v.l.jts=l) (h:z03 l x=r) (w:World) (hr:LvR w v):Calls Tryz.prog 79 #[.agg (z1b v),.agg #[.int .i64 x.el,.int .i64 x.sd]] w fun e w'=>e=.returned (z6v r)∧Below w.heap.size w w':=by
 subst hv h;exact z6g v x w hr
theorem y5r (v:LV) (s:Stp) (g:Nat) (w:World) (hr:LvR w v) (hg:Blk w g 28 (z1b v)):Calls Tryz.prog 163 #[.agg #[.int .i64 s.el,.int .i64 s.inn,.int .i64 s.out],.pointer (some ⟨g,0,none⟩)] w fun e w'=>e=.returned (z6v (z7l v.l s))∧Below w.heap.size w w':=by
 obtain ⟨el,inn,out⟩:=s;dsimp only;obtain ⟨r,hr2⟩:∃ r,z7l v.l ⟨el,inn,out⟩=r:=⟨_,rfl⟩
 obtain ⟨W2,hW2⟩:∃ W,W=(w.alloc (.cells #[.int .i64 el,.int .i64 inn,.int .i64 out] 85)).alloc (.cells #[.int .i64 0,.int .i64 0] 90):=⟨_,rfl⟩
 have hB2:Below w.heap.size w W2:=by rw[hW2];exact (bQ.alloc nL _).alloc (by simp) _
 have hz1:Blk W2 (w.heap.size+1) 90 #[.int .i64 0,.int .i64 0]:=by rw[hW2];exact Blk.new _ _ _ _ (by simp)
 have HJ:=hE (j8j v ⟨el,out⟩ rfl hr2 W2 (hr.now hB2));have x0:=hg.cell 0;have x1:=hg.cell 1;have x2:=hg.cell 2;have x3:=hg.cell 3;have x4:=hg.cell 4;have x5:=hg.cell 5;have lg:=hg.lt;simp only[gqA,gqZ,gqS] at x0 x1 x2 x3 x4 x5;rw[hr2];clear hr2 hr hg;dsimp only at HJ;go_enter Tryz.func163,Tryz.ntmps163
 go_wp2_with fail;rw[←hW2];refine HJ.out.mono ?_;rintro e w3 ⟨rfl,hq⟩;have hb3:=z00 hB2 hB2.size hq;have hz3:=hz1.now hq;have q0:=hz3.cell 0;have q1:=hz3.cell 1;have qf:=hz3.free;have hsz:=hz3.lt;simp only[gqA,gqZ,gqS] at q0 q1;clear hW2 x0 x1 x2 x3 x4 x5 hz3 hz1 HJ hq hB2;obtain ⟨a,b,c,hjv⟩:=y2e r;rw[hjv];have HX:=hE hjv;clear hjv;go_wp2_with fail
 exact bodyPost_ret (v:=.tuple #[.agg #[.int .i64 a,.int .i64 b],.bool c]) (by simp[results,Tryz.results163,go_sem,q0,q1,hsz]) rfl ⟨by rw[HX.out],blz⟩
theorem y7n (v:LV) (w:World) (hr:LvR w v):Calls Tryz.prog 147 #[.agg (z1b v)] w fun e w'=>e=.returned (.func (.func 163) #[] #[.pointer (some ⟨w.heap.size,0,none⟩)])∧w' = w.alloc (.cells (z1b v) 28):=by
 have hmf:∀ (fn:Fn) (first cap:Array Value) (w:World),(Instr.makeFunc fn first cap).run Tryz.prog w=.ok (.func fn first cap) w:=fun _ _ _ _=>rfl
 go_enter Tryz.func147,Tryz.ntmps147
 go_wp2_with fail;go_ret
 exact ⟨rfl,rfl⟩
theorem next_any (v:LV) (s:Stp) (w:World) (hr:LvR w v):Calls Tryz.prog 97 #[lvA v,.agg #[.int .i64 s.el,.int .i64 s.inn,.int .i64 s.out]] w fun e w'=>e=.returned (z6v (z7l v.l s))∧Below w.heap.size w w':=by
 obtain ⟨W2,hW2⟩:∃ W,W=((w.alloc (.cells (z1b v) 28)).alloc (.cells #[.int .i64 s.el,.int .i64 s.inn,.int .i64 s.out] 85)).alloc (.cells #[.int .i64 0,.int .i64 0] 90):=⟨_,rfl⟩
 have hbx:Lx w W2 v:=by rw[hW2];exact ((Lx.new hr).alloc _).alloc _
 have hx1:Blk W2 (w.heap.size+1) 85 #[.int .i64 s.el,.int .i64 s.inn,.int .i64 s.out]:=by rw[hW2];exact (Blk.new _ _ _ _ (by simp)).alloc _
 have hz1:Blk W2 (w.heap.size+1+1) 90 #[.int .i64 0,.int .i64 0]:=by rw[hW2];exact Blk.new _ _ _ _ (by simp)
 have HP1:=hE fun W h g hg=>y5r v s g W h hg
 have HPA:=hE fun W h=>y7n v W h
 obtain ⟨r,hr2⟩:∃ r,z7l v.l s=r:=⟨_,rfl⟩
 rw[hr2] at HP1 ⊢;clear hr2;unfold lvA;go_enter Tryz.func97,Tryz.ntmps97
 go_wp2_with fail;rw[←hW2];have x0:=hbx.x0;have x1:=hbx.x1;have x2:=hbx.x2;have x3:=hbx.x3;have x4:=hbx.x4;have x5:=hbx.x5;have z0:=hx1.cell 0;have z1:=hx1.cell 1;have z2:=hx1.cell 2;simp only[gqA,gqZ,gqS] at z0 z1 z2;have HSS:Hid (∀ W,Below (w.heap.size+1+1) W2 W→(fun w'=>w'.cell? ⟨w.heap.size,0,none⟩=some (.string (bs v.l.name))∧w'.cell? ⟨w.heap.size,1,none⟩=some (.slice v.A1 v.l.secs.length v.c1)∧w'.cell? ⟨w.heap.size,2,none⟩=some (.slice v.A2 v.l.els.length v.c2)∧w'.cell? ⟨w.heap.size,3,none⟩=some (.slice v.A3 v.l.jts.length v.c3)∧w'.cell? ⟨w.heap.size,4,none⟩=some (.slice v.A4 v.l.sgs.length v.c4)∧w'.cell? ⟨w.heap.size,5,none⟩=some (.slice v.A5 v.l.bls.length v.c5)∧w'.cell? ⟨w.heap.size+1,0,none⟩=some (.int .i64 s.el)∧w'.cell? ⟨w.heap.size+1,1,none⟩=some (.int .i64 s.inn)∧w'.cell? ⟨w.heap.size+1,2,none⟩=some (.int .i64 s.out)∧Below (w.heap.size+1+1) W2 w') W):=hE fun W h=>⟨(h.cell (p:=⟨w.heap.size,0,none⟩) (show w.heap.size < w.heap.size+1+1 by omega)).trans x0,(h.cell (p:=⟨w.heap.size,1,none⟩) (show w.heap.size < w.heap.size+1+1 by omega)).trans x1,(h.cell (p:=⟨w.heap.size,2,none⟩) (show w.heap.size < w.heap.size+1+1 by omega)).trans x2,(h.cell (p:=⟨w.heap.size,3,none⟩) (show w.heap.size < w.heap.size+1+1 by omega)).trans x3,(h.cell (p:=⟨w.heap.size,4,none⟩) (show w.heap.size < w.heap.size+1+1 by omega)).trans x4,(h.cell (p:=⟨w.heap.size,5,none⟩) (show w.heap.size < w.heap.size+1+1 by omega)).trans x5,(h.cell (p:=⟨w.heap.size+1,0,none⟩) (show w.heap.size+1 < w.heap.size+1+1 by omega)).trans z0,(h.cell (p:=⟨w.heap.size+1,1,none⟩) (show w.heap.size+1 < w.heap.size+1+1 by omega)).trans z1,(h.cell (p:=⟨w.heap.size+1,2,none⟩) (show w.heap.size+1 < w.heap.size+1+1 by omega)).trans z2,h⟩
 have hlz:=hz1.lt;have hbb:=hbx.bel;have hrd:=hbx.rd;clear hW2 x0 x1 x2 x3 x4 x5 z0 z1 z2 hx1;refine rgS 8 HSS fun hHeld=>?_
 refine tkM 2 [0,2] ?_;refine rd1 1 rfl fun K hK=>?_
 go_simp;go_at_call 147
 refine (HPA.out _ (hrd.now bQ.drew)).mono ?_;rintro e wp ⟨rfl,rfl⟩;have hpb:Below W2.heap.size W2 (W2.drew.alloc (.cells (z1b v) 28)):=bQ.drew.alloc nL _;have hpk:Blk (W2.drew.alloc (.cells (z1b v) 28)) W2.heap.size 28 (z1b v):=Blk.new _ _ _ _ rfl;have hp1:Below (w.heap.size+1+1) W2 (W2.drew.alloc (.cells (z1b v) 28)):=hpb.mono (by omega);go_wp2_with fail
 refine hK.out _ _ (HSS.out _ hp1) (fun hHeld=>?_);clear hK K;try simp only[Act.put,lsa,lsz,lss]
 have hz2:=hz1.now hpb;have hrp:=hrd.now hpb;have hbp:=z00 hbb hbb.size hpb;refine rd1 3 rfl fun K hK=>?_
 go_simp;go_at_call 163
 refine (HP1.out _ hrp _ hpk).mono ?_;rintro e wq ⟨rfl,hqq⟩;have hqb:=hpb.trans (hqq.mono (by simp));have hq1:Below (w.heap.size+1+1) W2 wq:=hqb.mono (by omega);go_wp2_with fail
 refine hK.out _ _ (HSS.out _ hq1) (fun hHeld=>?_);clear hK K;try simp only[Act.put,lsa,lsz,lss]
 obtain ⟨a,b,c,hjv⟩:=y2e r;rw[hjv];have HX:=hE hjv;clear hjv;have hz3:=hz1.now hqb;have hbq:=z00 hbb hbb.size hqb;refine tkM 2 [4,5] ?_;have q0:=hz3.cell 0;have q1:=hz3.cell 1;have qf:=hz3.free;have hlq:=hz3.lt;simp only[gqA,gqZ,gqS] at q0 q1;have hq2:Below (w.heap.size+1+1) W2 ((wq.setCell ⟨w.heap.size+1+1,0,none⟩ (.int .i64 a)).setCell ⟨w.heap.size+1+1,1,none⟩ (.int .i64 b)):=(hq1.setCell (p:=⟨w.heap.size+1+1,0,none⟩) nL _).setCell (p:=⟨w.heap.size+1+1,1,none⟩) nL _;refine rd1 6 rfl fun K hK=>?_
 go_simp;refine hK.out _ _ (HSS.out _ hq2) (fun hHeld=>?_);clear hK K;try simp only[Act.put,lsa,lsz,lss]
 refine tkM 1 [7] ?_;refine wdn ?_;have hbe:Below w.heap.size w ((wq.setCell ⟨w.heap.size+1+1,0,none⟩ (.int .i64 a)).setCell ⟨w.heap.size+1+1,1,none⟩ (.int .i64 b)):=(hbq.setCell (p:=⟨w.heap.size+1+1,0,none⟩) (by show w.heap.size≤w.heap.size+1+1;omega) _).setCell (p:=⟨w.heap.size+1+1,1,none⟩) (by show w.heap.size≤w.heap.size+1+1;omega) _;go_wp2_with fail
 exact bodyPost_ret (v:=.tuple #[.agg #[.int .i64 a,.int .i64 b],.bool c]) (by simp[results,Tryz.results97,go_sem,q0,q1]) rfl ⟨by rw[HX.out],hbe⟩
end Go.Proofs.YtpenlfedkacglaaGreatDoor
namespace Go.Proofs
open Go.Shelf
theorem Tryz.fy {α:Type _} {a:Option α} {b c:α} (h:a=some b) (k:b=c:=by kernel_rfl):a=some c:=h.trans (congrArg some k)
def Tryz.y76:Go.Shelf.Ren:=⟨fun | 122=>42 | 215=>90 | n=>n,fun | 3=>3 | 4=>4 | n=>n,fun | n=>n⟩
theorem Tryz.lays122:Go.Proofs.Lays.n122 Tryz.prog Tryz.y76:={
 mixed:=by kernel_rfl,f122:=fy func42,f215:=fy func90,t3:=underlying3,a3:=isAgg3,z3:=sizeOf3,v3:=zeroValue3,t4:=underlying4,a4:=isAgg4,z4:=sizeOf4,v4:=zeroValue4 }
open Go.RowKit in
theorem Tryz.cmp_Compare_int (x y:Int) (w:World) :
 Calls Tryz.prog 42 #[.int .i64 x,.int .i64 y] w fun e w'=>e=.returned (.int .i64 (Lib.compareInt x y))∧w' = w:=Any.cmp_Compare_int Tryz.lays122 x y w
def Tryz.y56:Go.Shelf.Ren:=⟨fun | 171=>82 | 243=>122 | 246=>151 | 283=>164 | 284=>165 | 285=>166 | 286=>167 | 129=>135 | 317=>171 | 318=>172 | 319=>173 | 320=>174 | 337=>176 | 338=>177 | n=>n,fun | 3=>3 | 9=>9 | 2=>2 | 4=>4 | 171=>232 | 0=>0 | 53=>206 | 37=>234 | 5=>5 | 173=>235 | 212=>243 | 51=>204 | 20=>20 | 213=>244 | 46=>154 | 232=>246 | 233=>247 | n=>n,fun | 17=>2 | 18=>3 | 19=>4 | n=>n⟩
theorem Tryz.laysM171:Go.Proofs.LaysM.n171 Tryz.prog Tryz.y56:={
 mixed:=by kernel_rfl,f129:=fy func135,f171:=fy func82,f243:=fy func122,f246:=fy func151,f283:=fy func164,f284:=fy func165,f285:=fy func166,f286:=fy func167,f317:=fy func171,f318:=fy func172,f319:=fy func173,f320:=fy func174,f337:=fy func176,f338:=fy func177,t0:=underlying0,a0:=isAgg0,z0:=sizeOf0,v0:=zeroValue0,t2:=underlying2,a2:=isAgg2,z2:=sizeOf2,v2:=zeroValue2,t3:=underlying3,a3:=isAgg3,z3:=sizeOf3,v3:=zeroValue3,t4:=underlying4,a4:=isAgg4,z4:=sizeOf4,v4:=zeroValue4,t5:=underlying5,a5:=isAgg5,z5:=sizeOf5,v5:=zeroValue5,t9:=underlying9,a9:=isAgg9,z9:=sizeOf9,v9:=zeroValue9,t20:=underlying20,a20:=isAgg20,z20:=sizeOf20,v20:=zeroValue20,t37:=underlying234,a37:=isAgg234,z37:=sizeOf234,v37:=zeroValue234,t46:=underlying154,a46:=isAgg154,z46:=sizeOf154,v46:=zeroValue154,t51:=underlying204,a51:=isAgg204,z51:=sizeOf204,v51:=zeroValue204,t53:=underlying206,a53:=isAgg206,z53:=sizeOf206,v53:=zeroValue206,t171:=underlying232,a171:=isAgg232,z171:=sizeOf232,v171:=zeroValue232,t173:=underlying235,a173:=isAgg235,z173:=sizeOf235,v173:=zeroValue235,t212:=underlying243,a212:=isAgg243,z212:=sizeOf243,v212:=zeroValue243,t213:=underlying244,a213:=isAgg244,z213:=sizeOf244,t232:=underlying246,a232:=isAgg246,z232:=sizeOf246,v232:=zeroValue246,t233:=underlying247,a233:=isAgg247,z233:=sizeOf247,v233:=zeroValue247,g17:=by kernel_rfl,g18:=by kernel_rfl,g19:=by kernel_rfl,i0:=by kernel_rfl,i2:=by kernel_rfl,i3:=by kernel_rfl,i4:=by kernel_rfl,i5:=by kernel_rfl,i9:=by kernel_rfl,i20:=by kernel_rfl,i37:=by kernel_rfl,i46:=by kernel_rfl,i51:=by kernel_rfl,i53:=by kernel_rfl,i171:=by kernel_rfl,i173:=by kernel_rfl,i212:=by kernel_rfl,i232:=by kernel_rfl,i233:=by kernel_rfl,m17:=by kernel_rfl,m18:=by kernel_rfl,m19:=by kernel_rfl }
open Go.RowKit Go.Sort Go.Lib in
theorem Tryz.strconv_Itoa (n:Int) (h0:-9223372036854775808≤n) (h1:n≤9223372036854775807) (w:World) (htab:Lib.TabIs Tryz.prog w "internal/strconv.uint64pow10" .u64 Lib.pow10Tab) :
 Calls Tryz.prog 82 #[.int .i64 n] w fun e w'=>e=.returned (.string ⟨(Lib.itoa n).toArray⟩)∧∃ k os,w' = grow (w.drewN k) os:=Any.strconv_Itoa Tryz.laysM171 n h0 h1 w htab
def Tryz.y77:Go.Shelf.Ren:=⟨fun | 189=>44 | 125=>89 | 257=>91 | 128=>134 | 129=>135 | 294=>136 | 295=>137 | 296=>138 | 297=>139 | 298=>140 | 299=>141 | 216=>142 | 300=>143 | 301=>144 | 328=>159 | 329=>155 | 330=>156 | 331=>160 | 332=>161 | 215=>90 | 343=>170 | n=>n,fun | 28=>31 | 3=>3 | 46=>154 | 0=>0 | 51=>204 | 53=>206 | 4=>4 | 183=>198 | 182=>197 | 131=>147 | 5=>5 | 9=>9 | 218=>223 | 222=>227 | 228=>238 | 229=>239 | n=>n,fun | n=>n⟩
theorem Tryz.lays189:Go.Proofs.Lays.n189 Tryz.prog Tryz.y77:={
 mixed:=by kernel_rfl,f125:=fy func89,f128:=fy func134,f129:=fy func135,f189:=fy func44,f215:=fy func90,f216:=fy func142,f257:=fy func91,f294:=fy func136,f295:=fy func137,f296:=fy func138,f297:=fy func139,f298:=fy func140,f299:=fy func141,f300:=fy func143,f301:=fy func144,f328:=fy func159,f329:=fy func155,f330:=fy func156,f331:=fy func160,f332:=fy func161,f343:=fy func170,t0:=underlying0,a0:=isAgg0,z0:=sizeOf0,v0:=zeroValue0,t3:=underlying3,a3:=isAgg3,z3:=sizeOf3,v3:=zeroValue3,t4:=underlying4,a4:=isAgg4,z4:=sizeOf4,v4:=zeroValue4,t5:=underlying5,a5:=isAgg5,z5:=sizeOf5,v5:=zeroValue5,t9:=underlying9,a9:=isAgg9,z9:=sizeOf9,v9:=zeroValue9,t28:=underlying31,a28:=isAgg31,z28:=sizeOf31,v28:=zeroValue31,t46:=underlying154,a46:=isAgg154,z46:=sizeOf154,v46:=zeroValue154,t51:=underlying204,a51:=isAgg204,z51:=sizeOf204,v51:=zeroValue204,t53:=underlying206,a53:=isAgg206,z53:=sizeOf206,v53:=zeroValue206,t131:=underlying147,a131:=isAgg147,z131:=sizeOf147,v131:=zeroValue147,t182:=underlying197,a182:=isAgg197,z182:=sizeOf197,v182:=zeroValue197,t183:=underlying198,a183:=isAgg198,z183:=sizeOf198,v183:=zeroValue198,t218:=underlying223,a218:=isAgg223,z218:=sizeOf223,v218:=zeroValue223,t222:=underlying227,a222:=isAgg227,z222:=sizeOf227,v222:=zeroValue227,t228:=underlying238,a228:=isAgg238,z228:=sizeOf238,v228:=zeroValue238,t229:=underlying239,a229:=isAgg239,z229:=sizeOf239,v229:=zeroValue239 }
open Go.Sort Go.RowKit in
theorem Tryz.slices_Sort_int (blk off cap:Nat) (zs:List Int) (w:World) (hH:Holds (Value.int .i64) w blk off zs.toArray) (hblk:blk < w.heap.size) (hsz:zs.length < 4611686018427387904) :
 Calls Tryz.prog 44 #[.slice (some ⟨blk,off,none⟩) zs.length cap] w fun e w'=>
  e=.returned (.tuple #[])∧∃ n os,w' = grow (putRow (Value.int .i64) (Sort.ahead w n) blk off (zs.mergeSort fun x y=>decide (x≤y)).toArray) os:=Any.slices_Sort_int Tryz.lays189 blk off cap zs w hH hblk hsz
def Tryz.lays108_ren:Go.Shelf.Ren:=⟨fun | 108=>107 | n=>n,fun | 28=>31 | 3=>3 | 0=>0 | 4=>4 | n=>n,fun | n=>n⟩
theorem Tryz.lays108:Go.Proofs.Lays.n108 Tryz.prog Tryz.lays108_ren:={
 mixed:=by kernel_rfl,f108:=fy func107,t0:=underlying0,a0:=isAgg0,z0:=sizeOf0,v0:=zeroValue0,t3:=underlying3,a3:=isAgg3,z3:=sizeOf3,v3:=zeroValue3,t4:=underlying4,a4:=isAgg4,z4:=sizeOf4,v4:=zeroValue4,t28:=underlying31,a28:=isAgg31,z28:=sizeOf31,v28:=zeroValue31 }
open Go.Lib in
theorem Tryz.slices_Index_int (b off n c:Nat) (zs:List Int) (x:Int) (w:World) (hz:n≤zs.length) (hbig:n≤9223372036854775807) (hc:∀ j,j < zs.length→w.cell? ⟨b,off+j,none⟩=some (.int .i64 (zs.getD j 0))) :
 Calls Tryz.prog 107 #[.slice (some ⟨b,off,none⟩) n c,.int .i64 x] w fun e w'=>e=.returned (.int .i64 (Lib.idxOf (zs.take n) x))∧w' = w:=Any.slices_Index_int Tryz.lays108 b off n c zs x w hz hbig hc
def Tryz.lays107_ren:Go.Shelf.Ren:=⟨fun | 107=>63 | 108=>107 | n=>n,fun | 28=>31 | 3=>3 | 4=>4 | 0=>0 | n=>n,fun | n=>n⟩
theorem Tryz.lays107:Go.Proofs.Lays.n107 Tryz.prog Tryz.lays107_ren:={
 mixed:=by kernel_rfl,f107:=fy func63,f108:=fy func107,t0:=underlying0,a0:=isAgg0,z0:=sizeOf0,v0:=zeroValue0,t3:=underlying3,a3:=isAgg3,z3:=sizeOf3,v3:=zeroValue3,t4:=underlying4,a4:=isAgg4,z4:=sizeOf4,v4:=zeroValue4,t28:=underlying31,a28:=isAgg31,z28:=sizeOf31,v28:=zeroValue31 }
open Go.Lib in
theorem Tryz.slices_Contains_int (b off n c:Nat) (zs:List Int) (x:Int) (w:World) (hz:n≤zs.length) (hbig:n≤9223372036854775807) (hc:∀ j,j < zs.length→w.cell? ⟨b,off+j,none⟩=some (.int .i64 (zs.getD j 0))) :
 Calls Tryz.prog 63 #[.slice (some ⟨b,off,none⟩) n c,.int .i64 x] w fun e w'=>e=.returned (.bool ((zs.take n).contains x))∧w' = w:=Any.slices_Contains_int Tryz.lays107 b off n c zs x w hz hbig hc
open Go.Lib in
theorem Tryz.slices_Contains_int_empty (a:Option Addr) (c:Nat) (x:Int) (w:World) :
 Calls Tryz.prog 63 #[.slice a 0 c,.int .i64 x] w fun e w'=>e=.returned (.bool false)∧w' = w:=Any.slices_Contains_int_empty Tryz.lays107 a c x w
def Tryz.y3o:Go.Shelf.Ren:=⟨fun | 15=>24 | n=>n,fun | 22=>31 | 3=>3 | 4=>4 | n=>n,fun | n=>n⟩
theorem Tryz.laysNm215:Go.Proofs.Lays2.n15 Tryz.prog Tryz.y3o:={
 mixed:=by kernel_rfl,f15:=fy func24,t3:=underlying3,a3:=isAgg3,z3:=sizeOf3,v3:=zeroValue3,t4:=underlying4,a4:=isAgg4,z4:=sizeOf4,v4:=zeroValue4,t22:=underlying31,a22:=isAgg31,z22:=sizeOf31,v22:=zeroValue31,i3:=by kernel_rfl }
open Go.RowKit Go.Lib in
theorem Tryz.slices_Clone_int (b off n c:Nat) (zs:List Int) (w:World) (hz:n≤zs.length) (hbig:n*8≤140737488355328) (hc:∀ j,j < zs.length→w.cell? ⟨b,off+j,none⟩=some (.int .i64 (zs.getD j 0))) :
 Calls Tryz.prog 24 #[.slice (some ⟨b,off,none⟩) n c] w fun e w'=>∃ v',e=.returned v'∧w'.ownsRow w.heap.size 3 1 v' n ((zs.take n).map (Value.int .i64))∧v'≠.slice none 0 0∧Below w.heap.size w w':=Any.slices_Clone_int Tryz.laysNm215 b off n c zs w hz hbig hc
open Go.RowKit Go.Lib in
theorem Tryz.slices_Clone_int_nil (n c:Nat) (w:World) :
 Calls Tryz.prog 24 #[.slice none n c] w fun e w'=>e=.returned (.slice none 0 0)∧w' = w:=Any.slices_Clone_int_nil Tryz.laysNm215 n c w
def Tryz.y3p:Go.Shelf.Ren:=⟨fun | 20=>45 | n=>n,fun | 22=>31 | 3=>3 | 4=>4 | 0=>0 | n=>n,fun | n=>n⟩
theorem Tryz.laysNm220:Go.Proofs.Lays2.n20 Tryz.prog Tryz.y3p:={
 mixed:=by kernel_rfl,f20:=fy func45,t0:=underlying0,a0:=isAgg0,z0:=sizeOf0,v0:=zeroValue0,t3:=underlying3,a3:=isAgg3,z3:=sizeOf3,v3:=zeroValue3,t4:=underlying4,a4:=isAgg4,z4:=sizeOf4,v4:=zeroValue4,t22:=underlying31,a22:=isAgg31,z22:=sizeOf31,v22:=zeroValue31,i3:=by kernel_rfl }
open Go.RowKit Go.Lib Go.Sort in
theorem Tryz.slices_Compact_int (blk off cap:Nat) (zs:List Int) (w:World) (hH:Holds (Value.int .i64) w blk off zs.toArray) (hsz:zs.length≤9223372036854775807) (hcap:zs.length≤cap) :
 Calls Tryz.prog 45 #[.slice (some ⟨blk,off,none⟩) zs.length cap] w fun e w'=>e=.returned (.slice (some ⟨blk,off,none⟩) (Lib.compact zs).length cap)∧∃ q,w' = putRow (Value.int .i64) (Sort.ahead w q) blk off (Lib.compact zs++List.replicate (zs.length - (Lib.compact zs).length) 0).toArray:=Any.slices_Compact_int Tryz.laysNm220 blk off cap zs w hH hsz hcap
open Go.RowKit Go.Lib Go.Sort in
theorem Tryz.slices_Compact_int_empty (a:Option Addr) (cap:Nat) (w:World) :
 Calls Tryz.prog 45 #[.slice a 0 cap] w fun e w'=>e=.returned (.slice a 0 cap)∧w' = w:=Any.slices_Compact_int_empty Tryz.laysNm220 a cap w
open Go.RowKit Go.Sort in
theorem Tryz.slices_Sort_int_none (p:Option Addr) (cap:Nat) (w:World) :
 Calls Tryz.prog 44 #[.slice p 0 cap] w fun e w'=>e=.returned (.tuple #[])∧w' = w:=Any.slices_Sort_int_none Tryz.lays189 p cap w
def Tryz.z8d:Go.Shelf.Ren:=⟨fun | 8=>108 | 6=>149 | n=>n,fun | 22=>31 | 23=>3 | 25=>155 | 4=>4 | 3=>3 | 0=>0 | n=>n,fun | n=>n⟩
theorem Tryz.laysSlH8_f108:Go.Proofs.SlLaysH.n8 Tryz.prog Tryz.z8d:={
 mixed:=by kernel_rfl,f6:=⟨Tryz.f149.name,by decide,fy func149⟩,f8:=⟨Tryz.f108.name,by decide,fy func108⟩,t0:=underlying0,a0:=isAgg0,z0:=sizeOf0,v0:=zeroValue0,t3:=underlying3,a3:=isAgg3,z3:=sizeOf3,v3:=zeroValue3,t4:=underlying4,a4:=isAgg4,z4:=sizeOf4,v4:=zeroValue4,t22:=underlying31,a22:=isAgg31,z22:=sizeOf31,v22:=zeroValue31,a23:=isAgg3,z23:=sizeOf3,t25:=underlying155,a25:=isAgg155,z25:=sizeOf155,v25:=zeroValue155 }
open Go.RowKit Go.Lib in
theorem Tryz.slices_ContainsFunc {α:Type} [Inhabited α] (enc:α→Value) (p:α→Bool) (g:Nat) (lb:Array Value) (eg:∀ args w,(callFunc g args).run Tryz.prog w=.ok (.enter g args) w) (b off n c:Nat) (zs:List α) (w:World) (hp:PredAt Tryz.prog g lb enc p w) (hz:n≤zs.length) (hbig:n≤9223372036854775807) (hc:∀ j,j < zs.length→w.cell? ⟨b,off+j,none⟩=some (enc zs[j]!)) :
 Calls Tryz.prog 108 #[.slice (some ⟨b,off,none⟩) n c,.func (.func g) #[] lb] w fun e w'=>e=.returned (.bool ((zs.take n).any p))∧∃ q,w' = w.drewN q:=AnyE.slices_ContainsFunc Tryz.laysSlH8_f108 enc p g lb eg b off n c zs w hp hz hbig hc
open Go.RowKit Go.Lib in
theorem Tryz.slices_ContainsFunc_empty {α:Type} [Inhabited α] (a:Option Addr) (c:Nat) (fv:Value) (w:World) :
 Calls Tryz.prog 108 #[.slice a 0 c,fv] w fun e w'=>e=.returned (.bool false)∧w' = w:=AnyE.slices_ContainsFunc_empty Tryz.laysSlH8_f108 a c fv w
def Tryz.x0n:Go.Shelf.Ren:=⟨fun | 6=>39 | 15=>89 | 14=>88 | 28=>134 | 29=>135 | 20=>126 | 21=>127 | 22=>128 | 23=>129 | 24=>130 | 25=>131 | 26=>132 | 27=>133 | 46=>154 | 47=>155 | 48=>156 | 49=>157 | 50=>158 | 57=>169 | n=>n,fun | 22=>53 | 24=>78 | 25=>96 | 3=>3 | 39=>154 | 0=>0 | 53=>204 | 55=>206 | 4=>4 | 46=>198 | 45=>197 | 50=>147 | 5=>5 | 9=>9 | 66=>223 | 70=>227 | 76=>238 | 77=>239 | n=>n,fun | n=>n⟩
theorem Tryz.layF39:Go.Proofs.SlLaysF0.n6 Tryz.prog Tryz.x0n:={
 mixed:=by kernel_rfl,f6:=⟨Tryz.f39.name,by decide,fy func39⟩,f14:=⟨Tryz.f88.name,by decide,fy func88⟩,f15:=fy func89,f20:=⟨Tryz.f126.name,by decide,fy func126⟩,f21:=⟨Tryz.f127.name,by decide,fy func127⟩,f22:=⟨Tryz.f128.name,by decide,fy func128⟩,f23:=⟨Tryz.f129.name,by decide,fy func129⟩,f24:=⟨Tryz.f130.name,by decide,fy func130⟩,f25:=⟨Tryz.f131.name,by decide,fy func131⟩,f26:=⟨Tryz.f132.name,by decide,fy func132⟩,f27:=⟨Tryz.f133.name,by decide,fy func133⟩,f28:=fy func134,f29:=fy func135,f46:=⟨Tryz.f154.name,by decide,fy func154⟩,f47:=fy func155,f48:=fy func156,f49:=⟨Tryz.f157.name,by decide,fy func157⟩,f50:=⟨Tryz.f158.name,by decide,fy func158⟩,f57:=⟨Tryz.f169.name,by decide,fy func169⟩,t0:=underlying0,a0:=isAgg0,z0:=sizeOf0,v0:=zeroValue0,t3:=underlying3,a3:=isAgg3,z3:=sizeOf3,v3:=zeroValue3,t4:=underlying4,a4:=isAgg4,z4:=sizeOf4,v4:=zeroValue4,t5:=underlying5,a5:=isAgg5,z5:=sizeOf5,v5:=zeroValue5,t9:=underlying9,a9:=isAgg9,z9:=sizeOf9,v9:=zeroValue9,t22:=underlying53,a22:=isAgg53,z22:=sizeOf53,v22:=zeroValue53,t25:=underlying96,a25:=isAgg96,z25:=sizeOf96,v25:=zeroValue96,t39:=underlying154,a39:=isAgg154,z39:=sizeOf154,v39:=zeroValue154,t45:=underlying197,a45:=isAgg197,z45:=sizeOf197,v45:=zeroValue197,t46:=underlying198,a46:=isAgg198,z46:=sizeOf198,v46:=zeroValue198,t50:=underlying147,a50:=isAgg147,z50:=sizeOf147,v50:=zeroValue147,t53:=underlying204,a53:=isAgg204,z53:=sizeOf204,v53:=zeroValue204,t55:=underlying206,a55:=isAgg206,z55:=sizeOf206,v55:=zeroValue206,t66:=underlying223,a66:=isAgg223,z66:=sizeOf223,v66:=zeroValue223,t70:=underlying227,a70:=isAgg227,z70:=sizeOf227,v70:=zeroValue227,t76:=underlying238,a76:=isAgg238,z76:=sizeOf238,v76:=zeroValue238,t77:=underlying239,a77:=isAgg239,z77:=sizeOf239,v77:=zeroValue239 }
def Tryz.x0j:Go.Shelf.Ren:=⟨fun | 41=>34 | n=>n,fun | 22=>52 | 23=>85 | 4=>4 | n=>n,fun | n=>n⟩
theorem Tryz.layC34:Go.Proofs.SlLaysE0.n41 Tryz.prog Tryz.x0j:={
 mixed:=by kernel_rfl,f41:=⟨Tryz.f34.name,by decide,fy func34⟩,t4:=underlying4,a4:=isAgg4,z4:=sizeOf4,v4:=zeroValue4,t22:=underlying52,a22:=isAgg52,z22:=sizeOf52,v22:=zeroValue52 }
def Tryz.x0k:Go.Shelf.Ren:=⟨fun | 41=>35 | n=>n,fun | 22=>53 | 23=>78 | 4=>4 | n=>n,fun | n=>n⟩
theorem Tryz.layC35:Go.Proofs.SlLaysE0.n41 Tryz.prog Tryz.x0k:={
 mixed:=by kernel_rfl,f41:=⟨Tryz.f35.name,by decide,fy func35⟩,t4:=underlying4,a4:=isAgg4,z4:=sizeOf4,v4:=zeroValue4,t22:=underlying53,a22:=isAgg53,z22:=sizeOf53,v22:=zeroValue53 }
def Tryz.x0l:Go.Shelf.Ren:=⟨fun | 41=>47 | n=>n,fun | 22=>54 | 23=>90 | 4=>4 | n=>n,fun | n=>n⟩
theorem Tryz.layC47:Go.Proofs.SlLaysE0.n41 Tryz.prog Tryz.x0l:={
 mixed:=by kernel_rfl,f41:=⟨Tryz.f47.name,by decide,fy func47⟩,t4:=underlying4,a4:=isAgg4,z4:=sizeOf4,v4:=zeroValue4,t22:=underlying54,a22:=isAgg54,z22:=sizeOf54,v22:=zeroValue54 }
def Tryz.x0m:Go.Shelf.Ren:=⟨fun | 41=>61 | n=>n,fun | 22=>39 | 23=>58 | 4=>4 | n=>n,fun | n=>n⟩
theorem Tryz.layC61:Go.Proofs.SlLaysE0.n41 Tryz.prog Tryz.x0m:={
 mixed:=by kernel_rfl,f41:=⟨Tryz.f61.name,by decide,fy func61⟩,t4:=underlying4,a4:=isAgg4,z4:=sizeOf4,v4:=zeroValue4,t22:=underlying39,a22:=isAgg39,z22:=sizeOf39,v22:=zeroValue39 }
def Tryz.y74:Go.Shelf.Ren:=⟨fun | 8=>145 | 6=>162 | n=>n,fun | 22=>52 | 23=>85 | 25=>213 | 4=>4 | 3=>3 | 0=>0 | n=>n,fun | n=>n⟩
theorem Tryz.layH145:Go.Proofs.SlLaysH0.n8 Tryz.prog Tryz.y74:={
 mixed:=by kernel_rfl,f6:=⟨Tryz.f162.name,by decide,fy func162⟩,f8:=⟨Tryz.f145.name,by decide,fy func145⟩,t0:=underlying0,a0:=isAgg0,z0:=sizeOf0,v0:=zeroValue0,t3:=underlying3,a3:=isAgg3,z3:=sizeOf3,v3:=zeroValue3,t4:=underlying4,a4:=isAgg4,z4:=sizeOf4,v4:=zeroValue4,t22:=underlying52,a22:=isAgg52,z22:=sizeOf52,v22:=zeroValue52,t25:=underlying213,a25:=isAgg213,z25:=sizeOf213,v25:=zeroValue213 }
def Tryz.x0o:Go.Shelf.Ren:=⟨fun | 8=>30 | 6=>71 | n=>n,fun | 22=>39 | 23=>58 | 25=>80 | 4=>4 | 3=>3 | 0=>0 | n=>n,fun | n=>n⟩
theorem Tryz.layH30:Go.Proofs.SlLaysH0.n8 Tryz.prog Tryz.x0o:={
 mixed:=by kernel_rfl,f6:=⟨Tryz.f71.name,by decide,fy func71⟩,f8:=⟨Tryz.f30.name,by decide,fy func30⟩,t0:=underlying0,a0:=isAgg0,z0:=sizeOf0,v0:=zeroValue0,t3:=underlying3,a3:=isAgg3,z3:=sizeOf3,v3:=zeroValue3,t4:=underlying4,a4:=isAgg4,z4:=sizeOf4,v4:=zeroValue4,t22:=underlying39,a22:=isAgg39,z22:=sizeOf39,v22:=zeroValue39,t25:=underlying80,a25:=isAgg80,z25:=sizeOf80,v25:=zeroValue80 }
def Tryz.y75:Go.Shelf.Ren:=⟨fun | 7=>168 | 6=>175 | n=>n,fun | 22=>53 | 24=>78 | 4=>4 | 0=>0 | 3=>3 | n=>n,fun | n=>n⟩
theorem Tryz.layQ168:Go.Proofs.SlLaysQ.n7 Tryz.prog Tryz.y75:={
 mixed:=by kernel_rfl,f6:=⟨Tryz.f175.name,by decide,fy func175⟩,f7:=⟨Tryz.f168.name,by decide,fy func168⟩,t0:=underlying0,a0:=isAgg0,z0:=sizeOf0,v0:=zeroValue0,t3:=underlying3,a3:=isAgg3,z3:=sizeOf3,v3:=zeroValue3,t4:=underlying4,a4:=isAgg4,z4:=sizeOf4,v4:=zeroValue4,t22:=underlying53,a22:=isAgg53,z22:=sizeOf53,v22:=zeroValue53 }
end Go.Proofs
namespace Go.Proofs.YtpenlfedkacglaaGreatDoor
open Go.RowKit Go.Sort
attribute [local go_sem] z05 z09 z01 z02
attribute [-go_sem] run_equalIn_agg
def orI (a b:Int):Int:=if a=0 then b else a
theorem x4d (a b:Int) (g:Nat) (T:TypeId) (w:World) (h:Blk w g T #[.int .i64 a,.int .i64 b]):Calls Tryz.prog 41 #[.slice (some ⟨g,0,none⟩) 2 2] w fun e w'=>e=.returned (.int .i64 (orI a b))∧w' = w:=by
 have y0:=h.cell 0;have y1:=h.cell 1;simp only[gqA,gqZ,gqS] at y0 y1;clear h;go_enter Tryz.func41,Tryz.ntmps41
 go_wp2_with fail;go_loop [8] (fun i=>∃ k:Nat,k≤2∧i=.int .i64 k∧Hid (1≤k→a=0)∧Hid (2≤k→b=0)) (fun i=>2 - (intOf i).toNat)
 case atStart=>exact ⟨0,by omega,rfl,hE (by omega),hE (by omega)⟩
 case round=>
  obtain ⟨k,hk,rfl,H1,H2⟩:=hrel;have:k=0∨k=1∨k=2:=by omega
  rcases this with rfl | rfl | rfl
  ·by_cases ha:a=0
   ·have t1:(a != 0)=false:=by simp[ha]
    have HA:=hE ha;clear ha;go_wp2_with fail
    go_round
    case rel=>exact ⟨1,by omega,by first | rfl | go_num,hE fun _=>HA.out,hE (by omega)⟩
    case measure=>simp[intOf]
   ·have t1:(a != 0)=true:=by simp[ha]
    have HX:Hid (orI a b=a):=hE (by unfold orI;rw[if_neg ha]);clear ha;go_wp2_with fail
    go_ret;exact ⟨z0i HX.out.symm,rfl⟩
  ·have HX:Hid (orI a b=b):=hE (by unfold orI;rw[if_pos (H1.out (by omega))]);by_cases hb:b=0
   ·have t1:(b != 0)=false:=by simp[hb]
    have HB:=hE hb;clear hb;go_wp2_with fail
    go_round
    case rel=>exact ⟨2,by omega,by first | rfl | go_num,hE fun _=>H1.out (by omega),hE fun _=>HB.out⟩
    case measure=>simp[intOf]
   ·have t1:(b != 0)=true:=by simp[hb]
    clear hb;go_wp2_with fail
    go_ret;exact ⟨z0i HX.out.symm,rfl⟩
  ·have HX:Hid (orI a b=0):=hE (by unfold orI;rw[if_pos (H1.out (by omega)),H2.out (by omega)]);go_wp2_with fail
   go_ret;exact ⟨z0i HX.out.symm,rfl⟩
def z3j (x:Stg):List Value:=[.int .i64 x.el,.int .i64 x.pos]
def cfG (x y:Stg):Int:=orI (Lib.compareInt x.el y.el) (Lib.compareInt x.pos y.pos)
theorem y5a (x y:Stg):ltOf cfG x y=ltG x y:=by
 rw[Bool.eq_iff_iff,y04];unfold ltOf cfG orI Lib.compareInt;simp only[dET];by_cases h1:x.el < y.el
 ·simp[h1]
 ·by_cases h2:y.el < x.el
  ·simp[h1,h2];omega
  ·by_cases h3:x.pos < y.pos
   ·simp[h1,h2,h3];omega
   ·by_cases h4:y.pos < x.pos <;> simp[h1,h2,h3,h4] <;> omega
theorem k0d:SWO (ltOf cfG) where
 irrefl x:=by rw[y5a,y59];omega
 trans x y z h1 h2:=by rw[y5a,y04] at *;omega
 ntrans x y z h1 h2:=by rw[y5a,y59] at *;omega
theorem j2c (l:List Stg):l.mergeSort (fun x y=>!(ltOf cfG) y x)=z4e ltG l:=by
 have he:(fun x y=>!(ltOf cfG) y x)=fun x y:Stg=>!ltG y x:=by funext x y;rw[y5a]
 rw[he];refine y64 x3r ((List.mergeSort_perm l _).trans (z1k l).symm) ?_ (z5b x3t x3s l);have:=List.pairwise_mergeSort (le:=fun x y:Stg=>!ltG y x) (fun a b c h1 h2=>by
  simp only[Bool.not_eq_true'] at *;exact x3t _ _ _ h1 h2) (fun a b=>by
  simp only[Bool.or_eq_true,Bool.not_eq_true']
  cases h:ltG b a with
  | false=>exact Or.inl rfl
  | true=>exact Or.inr (x3s _ _ h)) l
 exact this.imp fun h=>by simpa using h
theorem x6o (x y:Stg) (W:World):Calls Tryz.prog 99 #[.agg (z3j x).toArray,.agg (z3j y).toArray] W fun e w'=>e=.returned (.int .i64 (cfG x y))∧∃ q os',w' = grow (W.drewN q) os':=by
 have hc:=Tryz.cmp_Compare_int;obtain ⟨x0,x1⟩:=x;obtain ⟨y0,y1⟩:=y;unfold z3j cfG;dsimp only;obtain ⟨W2,hW2⟩:∃ V,V=(W.alloc (.cells #[.int .i64 x0,.int .i64 x1] 78)).alloc (.cells #[.int .i64 y0,.int .i64 y1] 78):=⟨_,rfl⟩
 have ha:Blk W2 W.heap.size 78 #[.int .i64 x0,.int .i64 x1]:=by rw[hW2];exact (Blk.new _ _ _ _ rfl).alloc _
 have hb:Blk W2 (W.heap.size+1) 78 #[.int .i64 y0,.int .i64 y1]:=by rw[hW2];exact Blk.new _ _ _ _ (by simp)
 have a0:=ha.cell 0;have a1:=ha.cell 1;have b0:=hb.cell 0;have b1:=hb.cell 1;have la:=ha.lt;have lb:=hb.lt;simp only[gqA,gqZ,gqS] at a0 a1 b0 b1;clear ha hb;go_enter Tryz.func99,Tryz.ntmps99
 go_wp2_with fail;rw[←hW2];have HW:=hE hW2;clear hW2;have HSS:Hid (∀ V,Below W2.heap.size W2 V→(fun w'=>w'.cell? ⟨W.heap.size,0,none⟩=some (.int .i64 x0)∧w'.cell? ⟨W.heap.size,1,none⟩=some (.int .i64 x1)∧w'.cell? ⟨W.heap.size+1,0,none⟩=some (.int .i64 y0)∧w'.cell? ⟨W.heap.size+1,1,none⟩=some (.int .i64 y1)∧Below W2.heap.size W2 w') V):=hE fun V h=>⟨(h.cell (p:=⟨W.heap.size,0,none⟩) la).trans a0,(h.cell (p:=⟨W.heap.size,1,none⟩) la).trans a1,(h.cell (p:=⟨W.heap.size+1,0,none⟩) lb).trans b0,(h.cell (p:=⟨W.heap.size+1,1,none⟩) lb).trans b1,h⟩
 clear a0 a1 b0 b1;refine rgS 13 HSS fun hHeld=>?_
 refine tkM 8 [0,1,2,3,5,6,7,8] ?_;refine rd1 4 rfl fun K hK=>?_
 go_simp;go_at_call 42
 refine (hc _ _ _).mono ?_;rintro e wq ⟨rfl,rfl⟩;go_wp2_with fail
 refine hK.out _ _ (HSS.out _ bQ.drew) (fun hHeld=>?_);clear hK K;try simp only[Act.put,lsa,lsz,lss]
 refine rd1 9 rfl fun K hK=>?_
 go_simp;go_at_call 42
 refine (hc _ _ _).mono ?_;rintro e wq ⟨rfl,rfl⟩;go_wp2_with fail
 refine hK.out _ _ (HSS.out _ bQ.drew) (fun hHeld=>?_);clear hK K;try simp only[Act.put,lsa,lsz,lss]
 refine rd1 10 rfl fun K hK=>?_
 go_simp;refine hK.out _ _ (HSS.out _ (bQ.drew.alloc nL _)) (fun hHeld=>?_);clear hK K;try simp only[Act.put,lsa,lsz,lss]
 refine rd1 11 rfl fun K hK=>?_
 go_simp;go_at_call 41
 refine (x4d (Lib.compareInt x0 y0) (Lib.compareInt x1 y1) W2.heap.size 3 _ (Blk.drew (Blk.new W2 3 #[.int .i64 (Lib.compareInt x0 y0),.int .i64 (Lib.compareInt x1 y1)] _ rfl))).mono ?_;rintro e wq ⟨rfl,rfl⟩;go_wp2_with fail
 refine hK.out _ _ (HSS.out _ (bQ.drew.alloc nL _)) (fun hHeld=>?_);clear hK K;try simp only[Act.put,lsa,lsz,lss]
 refine tkM 1 [12] ?_;refine wdn ?_;go_wp2_with fail
 go_ret;exact ⟨rfl,1,_,by rw[HW.out,alloc_eq_grow,alloc_eq_grow,grow_grow,alloc_eq_grow,grow_grow,drew_grow];rfl⟩
theorem x6p (x y:Stg) (W:World):Calls Tryz.prog 40 #[.agg (z3j x).toArray,.agg (z3j y).toArray] W fun e w'=>e=.returned (.int .i64 (cfG x y))∧∃ q os',w' = grow (W.drewN q) os':=by
 have hc:=Tryz.cmp_Compare_int;obtain ⟨x0,x1⟩:=x;obtain ⟨y0,y1⟩:=y;unfold z3j cfG;dsimp only;obtain ⟨W2,hW2⟩:∃ V,V=(W.alloc (.cells #[.int .i64 x0,.int .i64 x1] 78)).alloc (.cells #[.int .i64 y0,.int .i64 y1] 78):=⟨_,rfl⟩
 have ha:Blk W2 W.heap.size 78 #[.int .i64 x0,.int .i64 x1]:=by rw[hW2];exact (Blk.new _ _ _ _ rfl).alloc _
 have hb:Blk W2 (W.heap.size+1) 78 #[.int .i64 y0,.int .i64 y1]:=by rw[hW2];exact Blk.new _ _ _ _ (by simp)
 have a0:=ha.cell 0;have a1:=ha.cell 1;have b0:=hb.cell 0;have b1:=hb.cell 1;have la:=ha.lt;have lb:=hb.lt;simp only[gqA,gqZ,gqS] at a0 a1 b0 b1;clear ha hb;go_enter Tryz.func40,Tryz.ntmps40
 go_wp2_with fail;rw[←hW2];have HW:=hE hW2;clear hW2;have HSS:Hid (∀ V,Below W2.heap.size W2 V→(fun w'=>w'.cell? ⟨W.heap.size,0,none⟩=some (.int .i64 x0)∧w'.cell? ⟨W.heap.size,1,none⟩=some (.int .i64 x1)∧w'.cell? ⟨W.heap.size+1,0,none⟩=some (.int .i64 y0)∧w'.cell? ⟨W.heap.size+1,1,none⟩=some (.int .i64 y1)∧Below W2.heap.size W2 w') V):=hE fun V h=>⟨(h.cell (p:=⟨W.heap.size,0,none⟩) la).trans a0,(h.cell (p:=⟨W.heap.size,1,none⟩) la).trans a1,(h.cell (p:=⟨W.heap.size+1,0,none⟩) lb).trans b0,(h.cell (p:=⟨W.heap.size+1,1,none⟩) lb).trans b1,h⟩
 clear a0 a1 b0 b1;refine rgS 13 HSS fun hHeld=>?_
 refine tkM 8 [0,1,2,3,5,6,7,8] ?_;refine rd1 4 rfl fun K hK=>?_
 go_simp;go_at_call 42
 refine (hc _ _ _).mono ?_;rintro e wq ⟨rfl,rfl⟩;go_wp2_with fail
 refine hK.out _ _ (HSS.out _ bQ.drew) (fun hHeld=>?_);clear hK K;try simp only[Act.put,lsa,lsz,lss]
 refine rd1 9 rfl fun K hK=>?_
 go_simp;go_at_call 42
 refine (hc _ _ _).mono ?_;rintro e wq ⟨rfl,rfl⟩;go_wp2_with fail
 refine hK.out _ _ (HSS.out _ bQ.drew) (fun hHeld=>?_);clear hK K;try simp only[Act.put,lsa,lsz,lss]
 refine rd1 10 rfl fun K hK=>?_
 go_simp;refine hK.out _ _ (HSS.out _ (bQ.drew.alloc nL _)) (fun hHeld=>?_);clear hK K;try simp only[Act.put,lsa,lsz,lss]
 refine rd1 11 rfl fun K hK=>?_
 go_simp;go_at_call 41
 refine (x4d (Lib.compareInt x0 y0) (Lib.compareInt x1 y1) W2.heap.size 3 _ (Blk.drew (Blk.new W2 3 #[.int .i64 (Lib.compareInt x0 y0),.int .i64 (Lib.compareInt x1 y1)] _ rfl))).mono ?_;rintro e wq ⟨rfl,rfl⟩;go_wp2_with fail
 refine hK.out _ _ (HSS.out _ (bQ.drew.alloc nL _)) (fun hHeld=>?_);clear hK K;try simp only[Act.put,lsa,lsz,lss]
 refine tkM 1 [12] ?_;refine wdn ?_;go_wp2_with fail
 go_ret;exact ⟨rfl,1,_,by rw[HW.out,alloc_eq_grow,alloc_eq_grow,grow_grow,alloc_eq_grow,grow_grow,drew_grow];rfl⟩
theorem x6s (x y:Stg) (W:World):Calls Tryz.prog 113 #[.agg (z3j x).toArray,.agg (z3j y).toArray] W fun e w'=>e=.returned (.int .i64 (cfG x y))∧∃ q os',w' = grow (W.drewN q) os':=by
 have hc:=Tryz.cmp_Compare_int;obtain ⟨x0,x1⟩:=x;obtain ⟨y0,y1⟩:=y;unfold z3j cfG;dsimp only;obtain ⟨W2,hW2⟩:∃ V,V=(W.alloc (.cells #[.int .i64 x0,.int .i64 x1] 78)).alloc (.cells #[.int .i64 y0,.int .i64 y1] 78):=⟨_,rfl⟩
 have ha:Blk W2 W.heap.size 78 #[.int .i64 x0,.int .i64 x1]:=by rw[hW2];exact (Blk.new _ _ _ _ rfl).alloc _
 have hb:Blk W2 (W.heap.size+1) 78 #[.int .i64 y0,.int .i64 y1]:=by rw[hW2];exact Blk.new _ _ _ _ (by simp)
 have a0:=ha.cell 0;have a1:=ha.cell 1;have b0:=hb.cell 0;have b1:=hb.cell 1;have la:=ha.lt;have lb:=hb.lt;simp only[gqA,gqZ,gqS] at a0 a1 b0 b1;clear ha hb;go_enter Tryz.func113,Tryz.ntmps113
 go_wp2_with fail;rw[←hW2];have HW:=hE hW2;clear hW2;have HSS:Hid (∀ V,Below W2.heap.size W2 V→(fun w'=>w'.cell? ⟨W.heap.size,0,none⟩=some (.int .i64 x0)∧w'.cell? ⟨W.heap.size,1,none⟩=some (.int .i64 x1)∧w'.cell? ⟨W.heap.size+1,0,none⟩=some (.int .i64 y0)∧w'.cell? ⟨W.heap.size+1,1,none⟩=some (.int .i64 y1)∧Below W2.heap.size W2 w') V):=hE fun V h=>⟨(h.cell (p:=⟨W.heap.size,0,none⟩) la).trans a0,(h.cell (p:=⟨W.heap.size,1,none⟩) la).trans a1,(h.cell (p:=⟨W.heap.size+1,0,none⟩) lb).trans b0,(h.cell (p:=⟨W.heap.size+1,1,none⟩) lb).trans b1,h⟩
 clear a0 a1 b0 b1;refine rgS 13 HSS fun hHeld=>?_
 refine tkM 8 [0,1,2,3,5,6,7,8] ?_;refine rd1 4 rfl fun K hK=>?_
 go_simp;go_at_call 42
 refine (hc _ _ _).mono ?_;rintro e wq ⟨rfl,rfl⟩;go_wp2_with fail
 refine hK.out _ _ (HSS.out _ bQ.drew) (fun hHeld=>?_);clear hK K;try simp only[Act.put,lsa,lsz,lss]
 refine rd1 9 rfl fun K hK=>?_
 go_simp;go_at_call 42
 refine (hc _ _ _).mono ?_;rintro e wq ⟨rfl,rfl⟩;go_wp2_with fail
 refine hK.out _ _ (HSS.out _ bQ.drew) (fun hHeld=>?_);clear hK K;try simp only[Act.put,lsa,lsz,lss]
 refine rd1 10 rfl fun K hK=>?_
 go_simp;refine hK.out _ _ (HSS.out _ (bQ.drew.alloc nL _)) (fun hHeld=>?_);clear hK K;try simp only[Act.put,lsa,lsz,lss]
 refine rd1 11 rfl fun K hK=>?_
 go_simp;go_at_call 41
 refine (x4d (Lib.compareInt x0 y0) (Lib.compareInt x1 y1) W2.heap.size 3 _ (Blk.drew (Blk.new W2 3 #[.int .i64 (Lib.compareInt x0 y0),.int .i64 (Lib.compareInt x1 y1)] _ rfl))).mono ?_;rintro e wq ⟨rfl,rfl⟩;go_wp2_with fail
 refine hK.out _ _ (HSS.out _ (bQ.drew.alloc nL _)) (fun hHeld=>?_);clear hK K;try simp only[Act.put,lsa,lsz,lss]
 refine tkM 1 [12] ?_;refine wdn ?_;go_wp2_with fail
 go_ret;exact ⟨rfl,1,_,by rw[HW.out,alloc_eq_grow,alloc_eq_grow,grow_grow,alloc_eq_grow,grow_grow,drew_grow];rfl⟩
end Go.Proofs.YtpenlfedkacglaaGreatDoor
