import Derived.Test.YtpenlfedkacglaaGreatDoorR26
set_option maxRecDepth 100000
set_option maxHeartbeats 40000000
set_option linter.all false
namespace Go.Proofs.YtpenlfedkacglaaGreatDoor
open Go.RowKit
attribute [local go_sem] z05 z09 z01 z02
attribute [-go_sem] run_equalIn_agg
attribute [-go_sem] loadCellsFrom
def z4x (n k:Nat):Inp:=⟨List.replicate 24 false,[],List.replicate 24 false,List.replicate n false,[],[],(List.range k).map fun (r:Nat)=>(r:Int)⟩
theorem j0q {t:Tab} (h:z4p t=0):Calm t (z4x t.rts.length t.rts.length):=by
 have hk:=y0r h;refine ⟨fun n h0 h1=>?_,fun r hr=>?_,fun r hr=>?_,rfl⟩
 ·have hn:n.toNat < 24:=by have:=hk.ns.2;omega
  have ho:(z4x t.rts.length t.rts.length).occ=List.replicate 24 false:=rfl;unfold z2j;rw[dFf (by omega),Bool.false_or,ho,List.getD_eq_getElem?_getD,List.getElem?_replicate,if_pos hn];rfl
 ·simp[z4x,List.getD,hr]
 ·exact List.mem_map.2 ⟨r,List.mem_range.2 hr,rfl⟩
theorem y9v (n k:Nat):(z4x n (k+1)).cans=(z4x n k).cans++[(k:Int)]:=by simp[z4x,List.range_succ]
theorem x2c (n k:Nat):(z4x n k).cans.length=k:=by simp[z4x]
theorem x6b {t:Tab} {s:Itr} {i:Inp} (k:Nat):z4c t (z5y t s (List.replicate k i)) i=z5y t s (List.replicate (k+1) i):=by
 unfold z5y;rw[List.replicate_succ',List.foldl_append];rfl
theorem x7b {s:Itr} (h:∀ x∈s.rts,x.st=0):(!s.rts.any fun x=>!decide (x.st=0))=true:=by
 rw[Bool.not_eq_true',List.any_eq_false];intro x hx;simp[h x hx]
def y5j:Array Oper:=#[.mk (some 24) (.load 33 (.tmp 5)) 33 "top23.go:114" #[] none,.mk (some 25) (.load 33 (.tmp 5)) 33 "top23.go:114" #[] none,.mk (some 26) (.call (.mk (.value (.func 8)) #[.tmp 25] #[33])) 41 "top23.go:114" #[.mk 1 .data] none,.mk (some 27) (.move (.tmp 1)) 29 "top23.go:114" #[] none,.mk (some 28) (.call (.mk (.value (.func 12)) #[.tmp 24,.tmp 26,.tmp 27] #[33,41,29])) 41 "top23.go:114" #[.mk 0 .data,.mk 2 .data,.mk 3 .data,.mk 2 .chain] none,.mk (some 7) (.alloc 41) 0 "top23.go:114" #[] none,.mk none (.store 41 (.tmp 7) (.tmp 28)) 0 "top23.go:114" #[.mk 5 .data,.mk 4 .data,.mk 4 .chain,.mk 0 .phase,.mk 1 .phase,.mk 2 .phase,.mk 3 .phase,.mk 4 .phase,.mk 5 .phase] none]
def x5t (v:z1q) (B:Nat) (ins:List Inp) (Ai:Option Addr) (ci:Nat) (W:World) (j:Nat) (y:Value) (w:World):Prop:=match j with
 | 0=>y=.agg (z0s v)
 | 1=>y=.agg (z0s v)
 | 2=>∃ u':z1r,y=.agg #[.slice u'.A1 u'.i.rts.length u'.c1,.slice u'.A2 u'.i.lies.length u'.c2]∧u'.i=y66 v.t∧ItO w W.heap.size u'
 | 3=>y=.slice Ai ins.length ci
 | 4=>∃ u':z1r,y=.agg #[.slice u'.A1 u'.i.rts.length u'.c1,.slice u'.A2 u'.i.lies.length u'.c2]∧u'.i=z5y v.t (y66 v.t) ins∧ItO w W.heap.size u'
 | 5=>∃ g:Nat,y=.pointer (some ⟨g,0,none⟩)∧W.heap.size≤g∧Blk w g 41 #[.slice none 0 0,.slice none 0 0]
 | _=>True
theorem j8x {v:z1q} {B:Nat} {ins:List Inp} {Ai:Option Addr} {ci:Nat} {W:World}:∀ (j:Nat) (y:Value) (w w':World),x5t v B ins Ai ci W j y w→Below w.heap.size w w'→x5t v B ins Ai ci W j y w'
 | 0,y,w,w',h,hb=>h
 | 1,y,w,w',h,hb=>h
 | 2,y,w,w',h,hb=>(let ⟨u',h1,h2,h3⟩:=h;⟨u',h1,h2,h3.now hb⟩)
 | 3,y,w,w',h,hb=>h
 | 4,y,w,w',h,hb=>(let ⟨u',h1,h2,h3⟩:=h;⟨u',h1,h2,h3.now hb⟩)
 | 5,y,w,w',h,hb=>(let ⟨g,h1,h2,h3⟩:=h;⟨g,h1,h2,h3.now hb⟩)
 | _+6,_,_,_,_,_=>trivial
theorem j6t {Q:Exit→Act→World→Prop} {id:Nat} {a0:Act} {W:World} (v:z1q) (B:Nat) (ins:List Inp) (Ai:Option Addr) (ci:Nat) (x0:Blk W B 33 (z0s v)) (hr:TvR W v) (hS:y4e v.t) (hck:z4p v.t=0) (hi:RdS x65 W (Lt W) Ai ins) (hil:ins.length≤maxLen) (hca:∀ x∈ins,x.calls.length≤80000) (h0:a0.tmps.size=73) (T1:a0.eval (.tmp 1)=.slice Ai ins.length ci) (T5:a0.eval (.tmp 5)=.pointer (some ⟨B,0,none⟩))
  (hend:∀ a w,a.tmps.size=73→a.defers=a0.defers→(∀ s,s∉(List.range 6).map (z6l y5j)→a.eval (.tmp s)=a0.eval (.tmp s))→Below W.heap.size W w→(∀ j,j < 6→x5t v B ins Ai ci W j (a.eval (.tmp (z6l y5j j))) w)→wpAny Tryz.prog .any y5j Q 1 #[true,true,true,true,true,true,false] a w):(Code.region id y5j true).wp Tryz.prog Q a0 W:=by
 refine z2s 6 1 73 #[true,true,true,true,true,true,false] (by kernel_rfl) (by kernel_rfl) h0 (by kernel_rfl) (by kernel_rfl) (x5t v B ins Ai ci W) j8x ?_ hend;intro jx hjx a w hts hdf hk hb hd;clear hend hdf h0;have hc:jx=0∨jx=1∨jx=2∨jx=3∨jx=4∨jx=5:=by omega
 rcases hc with rfl | rfl | rfl | rfl | rfl | rfl
 ·refine z8u rfl fun K hK=>?_
  have t5:=(hk 5 (by decide +kernel)).trans T5;rw[z06] at t5;clear hk hd hts T1 T5;have ld:=z0c (x0.now hb) 5 rfl;clear x0 hr hS hck hi hil hca;go_simp
  exact hK.out _ _ bQ rfl
 ·refine z8u rfl fun K hK=>?_
  have t5:=(hk 5 (by decide +kernel)).trans T5;rw[z06] at t5;clear hk hd hts T1 T5;have ld:=z0c (x0.now hb) 5 rfl;clear x0 hr hS hck hi hil hca;go_simp
  exact hK.out _ _ bQ rfl
 ·refine z8u rfl fun K hK=>?_
  have e1:_=_:=z5i (s:=25) hd rfl 0 rfl rfl rfl rfl;rw[z06] at e1;clear hk hd hts T1 T5;have HC:=hE (y68 v w (hr.now hb) hS.ok hck);have hz:=hb.size;clear x0 hr hS hck hi hil hca;go_simp
  refine HC.out.mono ?_;rintro e w2 ⟨u',rfl,hu,ho,hq⟩;exact hK.out _ _ hq ⟨u',rfl,hu,ho.lower hz⟩
 ·refine z8u rfl fun K hK=>?_
  have t1:=(hk 1 (by decide +kernel)).trans T1;rw[z06] at t1;clear hk hd hts T1 T5;clear x0 hr hS hck hi hil hca;go_simp
  exact hK.out _ _ bQ rfl
 ·refine z8u rfl fun K hK=>?_
  have e0:_=_:=z5i (s:=24) hd rfl 0 rfl rfl rfl rfl;rw[z06] at e0;obtain ⟨u1,e2,hu1,hu2⟩:=z5i (s:=26) hd rfl 1 rfl rfl rfl rfl;rw[z06] at e2;have e3:_=_:=z5i (s:=27) hd rfl 2 rfl rfl rfl rfl;rw[z06] at e3;clear hk hd hts T1 T5;have hsd:z7t v.t u1.i=true:=by rw[hu1];exact z1f.2 (y67 hck)
  have HC:=hE (run_any v u1 ins Ai ci w (hr.now hb) hu2.rd (hi.now hb) hil hca hS hsd);have hz:=hb.size;have HU1:=hE hu1;clear hsd hu1 hu2;clear x0 hr hS hck hi hil hca;go_simp
  refine HC.out.mono ?_;rintro e w2 ⟨u',rfl,hu,ho,hq⟩;rw[HU1.out] at hu;exact hK.out _ _ hq ⟨u',rfl,hu,ho.lower hz⟩
 ·refine z8u rfl fun K hK=>?_
  clear hk hd hts T1 T5;have hz:=hb.size;clear x0 hr hS hck hi hil hca;go_simp
  exact hK.out _ _ (bQ.alloc nL _) ⟨_,rfl,hz,Blk.new _ _ _ _ rfl⟩
theorem j3d {Q:Exit→Act→World→Prop} {id:Nat} {a0:Act} {W:World} (v:z1q) (B:Nat) (ins:List Inp) (Ai:Option Addr) (ci:Nat) (x0:Blk W B 33 (z0s v)) (hr:TvR W v) (hS:y4e v.t) (hck:z4p v.t=0) (hi:RdS x65 W (Lt W) Ai ins) (hil:ins.length≤maxLen) (hca:∀ x∈ins,x.calls.length≤80000) (h0:a0.tmps.size=73) (t1:a0.eval (.tmp 1)=.slice Ai ins.length ci) (t5:a0.eval (.tmp 5)=.pointer (some ⟨B,0,none⟩))
  (hend:∀ a (w:World) (g:Nat) (u':z1r),a.tmps.size=73→a.defers=a0.defers→a.eval (.tmp 4)=a0.eval (.tmp 4)→a.eval (.tmp 5)=a0.eval (.tmp 5)→a.eval (.tmp 7)=.pointer (some ⟨g,0,none⟩)→u'.i=z5y v.t (y66 v.t) ins→ItO w W.heap.size u'→Blk w g 41 #[.slice u'.A1 u'.i.rts.length u'.c1,.slice u'.A2 u'.i.lies.length u'.c2]→W.heap.size≤g→Below W.heap.size W w→Q .normal a w):(Code.region id y5j true).wp Tryz.prog Q a0 W:=by
 refine j6t v B ins Ai ci x0 hr hS hck hi hil hca h0 t1 t5 ?_;intro a w hts hdf hk hb hp;obtain ⟨u',e28,hu1,hu2⟩:∃ u':z1r,a.eval (.tmp 28)=.agg #[.slice u'.A1 u'.i.rts.length u'.c1,.slice u'.A2 u'.i.lies.length u'.c2]∧u'.i=z5y v.t (y66 v.t) ins∧ItO w W.heap.size u':=hp 4 (by decide);obtain ⟨g,e7,hg,hbk⟩:∃ g:Nat,a.eval (.tmp 7)=.pointer (some ⟨g,0,none⟩)∧W.heap.size≤g∧Blk w g 41 #[.slice none 0 0,.slice none 0 0]:=hp 5 (by decide);refine z4v (i:=6) (by kernel_rfl) ?_;refine z4b rfl ?_;refine z1a rfl _ _ _ rfl g #[.slice u'.A1 u'.i.rts.length u'.c1,.slice u'.A2 u'.i.lies.length u'.c2] e7 e28 41 #[.slice none 0 0,.slice none 0 0] hbk (by kernel_rfl) rfl (by simp[Value.oneCell']) ?_;refine z6a (by kernel_rfl) ?_;have p1:=z1e #[.slice u'.A1 u'.i.rts.length u'.c1,.slice u'.A2 u'.i.lies.length u'.c2] hbk;exact hend _ _ g u' hts hdf (hk 4 (by decide +kernel)) (hk 5 (by decide +kernel)) e7 hu1 (hu2.frm p1.2 (by decide) (by decide)) p1.1 hg (hb.trans ((z3s #[.slice u'.A1 u'.i.rts.length u'.c1,.slice u'.A2 u'.i.lies.length u'.c2] hbk).2.mono hg))
theorem x4e (n:Nat) (hn:n≤maxLen) (W:World):z07 cB (W.alloc (.cells (Array.replicate n (Value.bool false)) 4)) W.heap.size 4 (.slice (some ⟨W.heap.size,0,none⟩) n n) (List.replicate n false) 0:=by
 rw[←List.toArray_replicate];exact z4s n hn W
def y5k:Array Oper:=#[.mk (some 29) (.makeSlice 43 (.const (.int .i64 24)) (.const (.int .i64 24))) 43 "top23.go:115" #[] none,.mk (some 30) (.makeSlice 43 (.const (.int .i64 24)) (.const (.int .i64 24))) 43 "top23.go:115" #[] none,.mk (some 31) (.fieldAddr 33 (.tmp 5) 0) 0 "top23.go:115" #[] none,.mk (some 32) (.load 30 (.tmp 31)) 30 "top23.go:115" #[.mk 2 .data] none,.mk (some 33) (.call (.mk (.builtin .len) #[.tmp 32] #[30])) 3 "top23.go:115" #[.mk 3 .data] none,.mk (some 34) (.makeSlice 43 (.tmp 33) (.tmp 33)) 43 "top23.go:115" #[.mk 4 .data,.mk 4 .data] none,.mk (some 35) (.build 49 #[(0,.tmp 29),(2,.tmp 30),(3,.tmp 34)]) 49 "top23.go:115" #[.mk 0 .data,.mk 1 .data,.mk 5 .data] none,.mk (some 8) (.alloc 49) 0 "top23.go:115" #[] none,.mk none (.store 49 (.tmp 8) (.tmp 35)) 0 "top23.go:115" #[.mk 7 .data,.mk 6 .data,.mk 0 .phase,.mk 1 .phase,.mk 2 .phase,.mk 3 .phase,.mk 4 .phase,.mk 5 .phase,.mk 6 .phase,.mk 7 .phase] none]
def x5u (v:z1q) (B:Nat) (W:World) (j:Nat) (y:Value) (w:World):Prop:=match j with
 | 0=>∃ A:Option Addr,y=.slice A 24 24∧z07 cB w W.heap.size 4 (.slice A 24 24) (List.replicate 24 false) 0
 | 1=>∃ A:Option Addr,y=.slice A 24 24∧z07 cB w W.heap.size 4 (.slice A 24 24) (List.replicate 24 false) 0
 | 2=>y=.pointer (some ⟨B,0,none⟩)
 | 3=>y=.slice v.A1 v.t.rts.length v.c1
 | 4=>y=.int .i64 (v.t.rts.length:Int)
 | 5=>∃ A:Option Addr,y=.slice A v.t.rts.length v.t.rts.length∧z07 cB w W.heap.size 4 (.slice A v.t.rts.length v.t.rts.length) (List.replicate v.t.rts.length false) 0
 | 6=>∃ A1 A3 A4:Option Addr,y=.agg #[.slice A1 24 24,.slice none 0 0,.slice A3 24 24,.slice A4 v.t.rts.length v.t.rts.length,.slice none 0 0,.slice none 0 0,.slice none 0 0]∧z07 cB w W.heap.size 4 (.slice A1 24 24) (List.replicate 24 false) 0∧z07 cB w W.heap.size 4 (.slice A3 24 24) (List.replicate 24 false) 0∧z07 cB w W.heap.size 4 (.slice A4 v.t.rts.length v.t.rts.length) (List.replicate v.t.rts.length false) 0
 | 7=>∃ g:Nat,y=.pointer (some ⟨g,0,none⟩)∧W.heap.size≤g∧Blk w g 49 #[.slice none 0 0,.slice none 0 0,.slice none 0 0,.slice none 0 0,.slice none 0 0,.slice none 0 0,.slice none 0 0]
 | _=>True
theorem j8y {v:z1q} {B:Nat} {W:World}:∀ (j:Nat) (y:Value) (w w':World),x5u v B W j y w→Below w.heap.size w w'→x5u v B W j y w'
 | 0,y,w,w',h,hb=>(let ⟨A,h1,h2⟩:=h;⟨A,h1,h2.now hb⟩)
 | 1,y,w,w',h,hb=>(let ⟨A,h1,h2⟩:=h;⟨A,h1,h2.now hb⟩)
 | 2,y,w,w',h,hb=>h
 | 3,y,w,w',h,hb=>h
 | 4,y,w,w',h,hb=>h
 | 5,y,w,w',h,hb=>(let ⟨A,h1,h2⟩:=h;⟨A,h1,h2.now hb⟩)
 | 6,y,w,w',h,hb=>(let ⟨A1,A3,A4,h1,h2,h3,h4⟩:=h;⟨A1,A3,A4,h1,h2.now hb,h3.now hb,h4.now hb⟩)
 | 7,y,w,w',h,hb=>(let ⟨g,h1,h2,h3⟩:=h;⟨g,h1,h2,h3.now hb⟩)
 | _+8,_,_,_,_,_=>trivial
theorem j6u {Q:Exit→Act→World→Prop} {id:Nat} {a0:Act} {W:World} (v:z1q) (B:Nat) (x0:Blk W B 33 (z0s v)) (hn:v.t.rts.length≤48) (h0:a0.tmps.size=73) (T5:a0.eval (.tmp 5)=.pointer (some ⟨B,0,none⟩))
  (hend:∀ a w,a.tmps.size=73→a.defers=a0.defers→(∀ s,s∉(List.range 8).map (z6l y5k)→a.eval (.tmp s)=a0.eval (.tmp s))→Below W.heap.size W w→(∀ j,j < 8→x5u v B W j (a.eval (.tmp (z6l y5k j))) w)→wpAny Tryz.prog .any y5k Q 1 #[true,true,true,true,true,true,true,true,false] a w):(Code.region id y5k true).wp Tryz.prog Q a0 W:=by
 refine z2s 8 1 73 #[true,true,true,true,true,true,true,true,false] (by kernel_rfl) (by kernel_rfl) h0 (by kernel_rfl) (by kernel_rfl) (x5u v B W) j8y ?_ hend;intro jx hjx a w hts hdf hk hb hd;clear hend hdf h0;have hc:jx=0∨jx=1∨jx=2∨jx=3∨jx=4∨jx=5∨jx=6∨jx=7:=by omega
 rcases hc with rfl | rfl | rfl | rfl | rfl | rfl | rfl | rfl
 ·refine z8u rfl fun K hK=>?_
  clear hk hd hts T5;have hz:=hb.size;have mk:=z8f 24 24 rfl (by omega) w;clear x0 hn;go_simp
  exact hK.out _ _ (bQ.alloc nL _) ⟨_,rfl,(z4s 24 (by unfold maxLen;omega) w).lower hz⟩
 ·refine z8u rfl fun K hK=>?_
  clear hk hd hts T5;have hz:=hb.size;have mk:=z8f 24 24 rfl (by omega) w;clear x0 hn;go_simp
  exact hK.out _ _ (bQ.alloc nL _) ⟨_,rfl,(z4s 24 (by unfold maxLen;omega) w).lower hz⟩
 ·refine z8u rfl fun K hK=>?_
  have t5:=(hk 5 (by decide +kernel)).trans T5;rw[z06] at t5;clear hk hd hts T5;clear x0 hn;go_simp
  exact hK.out _ _ bQ rfl
 ·refine z8u rfl fun K hK=>?_
  have e2:_=_:=z5i (s:=31) hd rfl 0 rfl rfl rfl rfl;rw[z06] at e2;clear hk hd hts T5;have ld:=(x0.now hb).cell 0;simp only[gqA,gqZ,gqS] at ld;have hlt:=(x0.now hb).lt;clear x0 hn;go_simp
  exact hK.out _ _ bQ rfl
 ·refine z8u rfl fun K hK=>?_
  have e3:_=_:=z5i (s:=32) hd rfl 0 rfl rfl rfl rfl;rw[z06] at e3;clear hk hd hts T5;clear x0 hn;go_simp
  exact hK.out _ _ bQ rfl
 ·refine z8u rfl fun K hK=>?_
  have e4:_=_:=z5i (s:=33) hd rfl 0 rfl rfl rfl rfl;rw[z06] at e4;clear hk hd hts T5;have hz:=hb.size;have mk:=z8f v.t.rts.length v.t.rts.length rfl (by omega) w;have HN:=hE hn;simp only[List.toArray_replicate] at mk;clear x0 hn;go_simp
  exact hK.out _ _ (bQ.alloc nL _) ⟨_,rfl,(x4e v.t.rts.length (by have:=HN.out;unfold maxLen;omega) w).lower hz⟩
 ·refine z8u rfl fun K hK=>?_
  obtain ⟨Aa,e0,he0⟩:=z5i (s:=29) hd rfl 0 rfl rfl rfl rfl;rw[z06] at e0;obtain ⟨Ab,e1,he1⟩:=z5i (s:=30) hd rfl 1 rfl rfl rfl rfl;rw[z06] at e1;obtain ⟨Ac,e5,he5⟩:=z5i (s:=34) hd rfl 2 rfl rfl rfl rfl;rw[z06] at e5;clear hk hd hts T5;have HO:=hE (aIq he0 (aIq he1 he5));clear he0 he1 he5;clear x0 hn;go_simp
  exact hK.out _ _ bQ ⟨Aa,Ab,Ac,rfl,HO.out⟩
 ·refine z8u rfl fun K hK=>?_
  clear hk hd hts T5;have hz:=hb.size;clear x0 hn;go_simp
  exact hK.out _ _ (bQ.alloc nL _) ⟨_,rfl,hz,Blk.new _ _ _ _ rfl⟩
theorem j3e {Q:Exit→Act→World→Prop} {id:Nat} {a0:Act} {W:World} (v:z1q) (B:Nat) (x0:Blk W B 33 (z0s v)) (hn:v.t.rts.length≤48) (h0:a0.tmps.size=73) (t5:a0.eval (.tmp 5)=.pointer (some ⟨B,0,none⟩))
  (hend:∀ a (w:World) (g:Nat) (A1 A3 A4:Option Addr),a.tmps.size=73→a.defers=a0.defers→a.eval (.tmp 4)=a0.eval (.tmp 4)→a.eval (.tmp 5)=a0.eval (.tmp 5)→a.eval (.tmp 7)=a0.eval (.tmp 7)→a.eval (.tmp 8)=.pointer (some ⟨g,0,none⟩)→z07 cB w W.heap.size 4 (.slice A1 24 24) (List.replicate 24 false) 0→z07 cB w W.heap.size 4 (.slice A3 24 24) (List.replicate 24 false) 0→z07 cB w W.heap.size 4 (.slice A4 v.t.rts.length v.t.rts.length) (List.replicate v.t.rts.length false) 0→Blk w g 49 #[.slice A1 24 24,.slice none 0 0,.slice A3 24 24,.slice A4 v.t.rts.length v.t.rts.length,.slice none 0 0,.slice none 0 0,.slice none 0 0]→W.heap.size≤g→Below W.heap.size W w→Q .normal a w):(Code.region id y5k true).wp Tryz.prog Q a0 W:=by
 refine j6u v B x0 hn h0 t5 ?_;intro a w hts hdf hk hb hp;obtain ⟨A1,A3,A4,e35,q1,q3,q4⟩:∃ A1 A3 A4:Option Addr,a.eval (.tmp 35)=.agg #[.slice A1 24 24,.slice none 0 0,.slice A3 24 24,.slice A4 v.t.rts.length v.t.rts.length,.slice none 0 0,.slice none 0 0,.slice none 0 0]∧z07 cB w W.heap.size 4 (.slice A1 24 24) (List.replicate 24 false) 0∧z07 cB w W.heap.size 4 (.slice A3 24 24) (List.replicate 24 false) 0∧z07 cB w W.heap.size 4 (.slice A4 v.t.rts.length v.t.rts.length) (List.replicate v.t.rts.length false) 0:=hp 6 (by decide);obtain ⟨g,e8,hg,hbk⟩:∃ g:Nat,a.eval (.tmp 8)=.pointer (some ⟨g,0,none⟩)∧W.heap.size≤g∧Blk w g 49 #[.slice none 0 0,.slice none 0 0,.slice none 0 0,.slice none 0 0,.slice none 0 0,.slice none 0 0,.slice none 0 0]:=hp 7 (by decide);refine z4v (i:=8) (by kernel_rfl) ?_;refine z4b rfl ?_;refine z1a rfl _ _ _ rfl g #[.slice A1 24 24,.slice none 0 0,.slice A3 24 24,.slice A4 v.t.rts.length v.t.rts.length,.slice none 0 0,.slice none 0 0,.slice none 0 0] e8 e35 49 #[.slice none 0 0,.slice none 0 0,.slice none 0 0,.slice none 0 0,.slice none 0 0,.slice none 0 0,.slice none 0 0] hbk (by kernel_rfl) rfl (by simp[Value.oneCell']) ?_;refine z6a (by kernel_rfl) ?_;have p1:=z1e #[.slice A1 24 24,.slice none 0 0,.slice A3 24 24,.slice A4 v.t.rts.length v.t.rts.length,.slice none 0 0,.slice none 0 0,.slice none 0 0] hbk;exact hend _ _ g A1 A3 A4 hts hdf (hk 4 (by decide +kernel)) (hk 5 (by decide +kernel)) (hk 7 (by decide +kernel)) e8 (q1.frm p1.2 (by decide) nZ) (q3.frm p1.2 (by decide) nZ) (q4.frm p1.2 (by decide) nZ) p1.1 hg (hb.trans ((z3s #[.slice A1 24 24,.slice none 0 0,.slice A3 24 24,.slice A4 v.t.rts.length v.t.rts.length,.slice none 0 0,.slice none 0 0,.slice none 0 0] hbk).2.mono hg))
structure x5n (tv:z1q) (iv:z3o) (w w4 w5:World) (g1 gs gi:Nat) (wr:World) (um:z1r):Prop where
 b1:Blk wr g1 33 (z0s tv)
 bs:Blk wr gs 41 (z1u um)
 bi:Blk wr gi 49 (z3q iv)
 tr4:TvR w4 tv
 b4:Below w4.heap.size w4 wr
 it:ItO wr 0 um
 io:y1m wr w5.heap.size iv
 gsl:w.heap.size≤gs
 gs4:w4.heap.size≤gs
 ne1:g1≠gs
 ne2:gi≠gs
 bel:Below w.heap.size w wr
section
variable {tv:z1q} {iv:z3o} {w w4 w5 wr w':World} {g1 gs gi:Nat} {um u':z1r}
theorem x5n.tr (h:x5n tv iv w w4 w5 g1 gs gi wr um):TvR wr tv:=h.tr4.now h.b4
theorem x5n.now (h:x5n tv iv w w4 w5 g1 gs gi wr um) (hb:Below wr.heap.size wr w'):x5n tv iv w w4 w5 g1 gs gi w' um:=⟨h.b1.now hb,h.bs.now hb,h.bi.now hb,h.tr4,z00 h.b4 h.b4.size hb,h.it.now hb,h.io.now hb,h.gsl,h.gs4,h.ne1,h.ne2,z00 h.bel h.bel.size hb⟩
theorem x5n.put (h:x5n tv iv w w4 w5 g1 gs gi wr um) (hi:ItO wr 0 u'):x5n tv iv w w4 w5 g1 gs gi ((wr.setCell ⟨gs,0,none⟩ (.slice u'.A1 u'.i.rts.length u'.c1)).setCell ⟨gs,1,none⟩ (.slice u'.A2 u'.i.lies.length u'.c2)) u':=
 ⟨j9h h.b1 h.ne1 _ _,y33 h.bs _ _,j9h h.bi h.ne2 _ _,h.tr4,bel2 h.b4 h.gs4 _ _,hi.j8p h.bs,h.io.x0y h.bs (by decide) (by decide),h.gsl,h.gs4,h.ne1,h.ne2,bel2 h.bel h.gsl _ _⟩
end
theorem y0s (l:LV) (ins:List Inp) (Ai:Option Addr) (ci:Nat) (w:World) (E:y6h w) (hl:LvR w l) (hj:l.l.jts.length≤140737488351232) (hi:RdS x65 w (Lt w) Ai ins) (hn:ins.length≤maxLen∧ins.length≤ci):Calls Tryz.prog 4 #[lvA l,.slice Ai ins.length ci] w (j7y w):=by
 obtain ⟨W1,hW1⟩:∃ W,W=w.alloc (.cells (z1b l) 28):=⟨_,rfl⟩
 have hb1:Below w.heap.size w W1:=by rw[hW1];exact bQ.alloc nL _
 have hx0:Blk W1 w.heap.size 28 (z1b l):=by rw[hW1];exact Blk.new _ _ _ _ rfl
 have HBD:=hE (y2q l W1 (E.now hb1) (hl.now hb1) hj);have HLT:=hE fun W' (h:Below w.heap.size w W')=>x3l l ins Ai ci W' (hl.now h) (hi.now h) hn.1
 have ld:=z0c hx0 6 rfl;have lx:=hx0.lt;unfold lvA at *;have HX0:=hE (aIq hx0 hb1);clear hx0 hb1;go_enter Tryz.func4,Tryz.ntmps4
 go_upto_region 1 with (fail)
 rw[←hW1];clear hW1;go_wp2_with fail
 refine HBD.out.mono ?_;rintro e w2 ⟨tv,rfl,htv,htr,hq2⟩;clear HBD ld lx;obtain ⟨er,her⟩:∃ x,(y9s l.l).2=x:=⟨_,rfl⟩
 rw[her];obtain ⟨W3,hW3⟩:∃ W,W=w2.alloc (.cells (z0s tv) 33):=⟨_,rfl⟩
 have h3:Below w2.heap.size w2 W3:=by rw[hW3];exact bQ.alloc nL _
 have hx1:Blk W3 w2.heap.size 33 (z0s tv):=by rw[hW3];exact Blk.new _ _ _ _ rfl
 have hq3:=z00 hq2 hq2.size h3;obtain ⟨hx0,hb1⟩:=HX0.out;have hx03:=hx0.now hq3;have hb3:=z00 hb1 hb1.size hq3;have ld:=z0c hx03 6 rfl;have lx:=hx03.lt;have HL3:=hE (HLT.out _ hb3);have HX:=hE (aIq hx1 (aIq (htr.now h3) hb3));have HTV:=hE htv;have HER:=hE her;clear hx0 hb1 hx03 hb3 hq3 hq2 h3 htr hx1 htv her HX0 HLT;go_upto_region 2 with (fail)
 rw[←hW3];clear hW3;generalize w2.heap.size=g1 at *;go_wp2_with fail
 refine HL3.out.mono ?_;rintro e w4 ⟨rfl,hq4⟩;clear HL3 ld lx;have HX4:=hE (show Blk w4 g1 33 (z0s tv)∧TvR w4 tv∧Below w.heap.size w w4 from ⟨HX.out.1.now hq4,HX.out.2.1.now hq4,z00 HX.out.2.2 HX.out.2.2.size hq4⟩);clear HX hq4
 cases hlt:z6o l.l ins with
 | false=>
  have HA:=hE (alive_any w4 (E.now HX4.out.2.2));go_wp2_with fail
  refine HA.out.mono ?_;rintro e w5 ⟨rfl,hq5⟩;have hb5:=z00 HX4.out.2.2 HX4.out.2.2.size hq5;clear HA;go_wp2_with fail
  go_ret
  exact ⟨rfl,hb5⟩
 | true=>
  by_cases her:er=0;case neg=>
   have t1:(er != 0)=true:=bne_iff_ne.2 her;clear her;have HA:=hE (alive_any w4 (E.now HX4.out.2.2));go_wp2_with fail
   refine HA.out.mono ?_;rintro e w5 ⟨rfl,hq5⟩;have hb5:=z00 HX4.out.2.2 HX4.out.2.2.size hq5;clear HA;go_wp2_with fail
   go_ret;exact ⟨rfl,hb5⟩
  case pos=>
   subst her;have t1:((0:Int) != 0)=false:=rfl;obtain ⟨hbe,hck,hTS⟩:=j4y HER.out;have hTV:tv.t=z5g l.l:=by rw[HTV.out,hbe]
   rw[←hTV] at hck hTS;obtain ⟨hi16,hca⟩:=x3n hlt;have hnr:=(y0r hck).nr;have HCK:=hE hck;have HTS:=hE hTS;clear hbe hTV hlt hck hTS HTV HER;go_wp2_with fail
   rename_i K hK;have TAIL4:∀ (w5:World) (gs:Nat) (u1:z1r) (z0 z1 z2 z3 z6 z8 z9 z10 z11 z12 z13 z14 z15 z16 z17 z18 z19 z20 z21 z22 z23 z24 z25 z26 z27 z28 z29 z30 z31 z32 z33 z34 z35 z36 z37 z38 z39 z40 z41 z42 z43 z44 z45 z46 z47 z48 z49 z50 z51 z52 z53 z54 z55 z56 z57 z58 z59 z60 z61 z62 z63 z64 z65 z66 z67 z68 z69 z70 z71 z72:Value),u1.i=z5y tv.t (y66 tv.t) ins→ItO w5 w4.heap.size u1→Blk w5 gs 41 (z1u u1)→w4.heap.size≤gs→Below w4.heap.size w4 w5→K { tmps:=#[z0,z1,z2,z3,.bool false,.pointer (some ⟨g1,0,none⟩),z6,.pointer (some ⟨gs,0,none⟩),z8,z9,z10,z11,z12,z13,z14,z15,z16,z17,z18,z19,z20,z21,z22,z23,z24,z25,z26,z27,z28,z29,z30,z31,z32,z33,z34,z35,z36,z37,z38,z39,z40,z41,z42,z43,z44,z45,z46,z47,z48,z49,z50,z51,z52,z53,z54,z55,z56,z57,z58,z59,z60,z61,z62,z63,z64,z65,z66,z67,z68,z69,z70,z71,z72],defers:=[] } w5:=by
    intro w5 gs u1 z0 z1 z2 z3 z6 z8 z9 z10 z11 z12 z13 z14 z15 z16 z17 z18 z19 z20 z21 z22 z23 z24 z25 z26 z27 z28 z29 z30 z31 z32 z33 z34 z35 z36 z37 z38 z39 z40 z41 z42 z43 z44 z45 z46 z47 z48 z49 z50 z51 z52 z53 z54 z55 z56 z57 z58 z59 z60 z61 z62 z63 z64 z65 z66 z67 z68 z69 z70 z71 z72 hu1 hio hbs hgs hq5;refine hK _ _ ?_;obtain ⟨hx1,htr,hb4⟩:=HX4.out;have HX5:=hE (show Blk w5 g1 33 (z0s tv)∧TvR w5 tv∧Below w.heap.size w w5 from ⟨hx1.now hq5,htr.now hq5,z00 hb4 hb4.size hq5⟩);have HU:=hE (aIq hu1 (aIq hio (aIq hbs (show w.heap.size≤gs from nR hb4.size hgs))));have hgg:g1≠gs:=by have:=hx1.lt;omega
    have HQ5:=hE hq5;have HGS:=hE hgs;clear hx1 htr hb4 hu1 hio hbs hgs hq5;go_wp2_with fail
    rename_i K5 hK5;have TAIL5:∀ (w6:World) (gi:Nat) (A1 A3 A4:Option Addr) (z0 z1 z2 z3 z6 z9 z10 z11 z12 z13 z14 z15 z16 z17 z18 z19 z20 z21 z22 z23 z24 z25 z26 z27 z28 z29 z30 z31 z32 z33 z34 z35 z36 z37 z38 z39 z40 z41 z42 z43 z44 z45 z46 z47 z48 z49 z50 z51 z52 z53 z54 z55 z56 z57 z58 z59 z60 z61 z62 z63 z64 z65 z66 z67 z68 z69 z70 z71 z72:Value),z07 cB w6 w5.heap.size 4 (.slice A1 24 24) (List.replicate 24 false) 0→z07 cB w6 w5.heap.size 4 (.slice A3 24 24) (List.replicate 24 false) 0→z07 cB w6 w5.heap.size 4 (.slice A4 tv.t.rts.length tv.t.rts.length) (List.replicate tv.t.rts.length false) 0→Blk w6 gi 49 #[.slice A1 24 24,.slice none 0 0,.slice A3 24 24,.slice A4 tv.t.rts.length tv.t.rts.length,.slice none 0 0,.slice none 0 0,.slice none 0 0]→w5.heap.size≤gi→Below w5.heap.size w5 w6→K5 { tmps:=#[z0,z1,z2,z3,.bool false,.pointer (some ⟨g1,0,none⟩),z6,.pointer (some ⟨gs,0,none⟩),.pointer (some ⟨gi,0,none⟩),z9,z10,z11,z12,z13,z14,z15,z16,z17,z18,z19,z20,z21,z22,z23,z24,z25,z26,z27,z28,z29,z30,z31,z32,z33,z34,z35,z36,z37,z38,z39,z40,z41,z42,z43,z44,z45,z46,z47,z48,z49,z50,z51,z52,z53,z54,z55,z56,z57,z58,z59,z60,z61,z62,z63,z64,z65,z66,z67,z68,z69,z70,z71,z72],defers:=[] } w6:=by
     intro w6 gi A1 A3 A4 z0 z1 z2 z3 z6 z9 z10 z11 z12 z13 z14 z15 z16 z17 z18 z19 z20 z21 z22 z23 z24 z25 z26 z27 z28 z29 z30 z31 z32 z33 z34 z35 z36 z37 z38 z39 z40 z41 z42 z43 z44 z45 z46 z47 z48 z49 z50 z51 z52 z53 z54 z55 z56 z57 z58 z59 z60 z61 z62 z63 z64 z65 z66 z67 z68 z69 z70 z71 z72 o1 o3 o4 hbi hgi hq6;refine hK5 _ _ ?_;obtain ⟨i0,hi0,hz0,hz1,hz2⟩:=info_parts z3b;have hx6:=HX5.out.1.now hq6;have c0:=hx6.cell 0;have lc:=hx6.lt;simp only[gqA,gqZ,gqS] at c0;have HO:=hE (aIq o1 (aIq o3 (aIq o4 (aIq hbi hq6))));have HGI:=hE hgi;clear o1 o3 o4 hbi hq6 hx6 hgi;go_wp2_with fail
     clear c0 lc;go_loopw [39] (fun a wr=>∃ (k:Nat) (A7:Option Addr) (c7:Nat),a=.int .i64 k∧k≤tv.t.rts.length∧z07 cB wr w5.heap.size 4 (.slice A1 24 24) (List.replicate 24 false) 0∧z07 cB wr w5.heap.size 4 (.slice A3 24 24) (List.replicate 24 false) 0∧z07 cB wr w5.heap.size 4 (.slice A4 tv.t.rts.length tv.t.rts.length) (List.replicate tv.t.rts.length false) 0∧z07 cI wr w5.heap.size 3 (.slice A7 k c7) (z4x tv.t.rts.length k).cans 0∧Blk wr gi 49 #[.slice A1 24 24,.slice none 0 0,.slice A3 24 24,.slice A4 tv.t.rts.length tv.t.rts.length,.slice none 0 0,.slice none 0 0,.slice A7 k c7]∧Below w5.heap.size w5 wr) (fun n _=>tv.t.rts.length - (intOf n).toNat)
     case atStart=>
      obtain ⟨o1,o3,o4,hbi,hq6⟩:=HO.out;exact ⟨0,none,0,rfl,nZ,o1,o3,o4,z07.nil _ _ _ _ nZ,hbi,hq6⟩
     case round=>
      obtain ⟨k,A7,c7,rfl,hkl,o1,o3,o4,o7,hbi,hq⟩:=hrel;clear HO;by_cases hlt:k < tv.t.rts.length
      ·have hki:(k:Int) < (tv.t.rts.length:Int):=by omega
       have hck1:=x2c tv.t.rts.length k;have c6:=hbi.cell 6;have lg:=hbi.lt;simp only[gqA,gqZ,gqS] at c6;have hsz:=hq.size;have hcl:(z4x tv.t.rts.length k).cans.length≤100:=by rw[hck1];omega
       obtain ⟨CN,hCN⟩:∃ c,(z4x tv.t.rts.length k).cans=c:=⟨_,rfl⟩
       rw[hCN] at o7 hcl hck1;have HST:=hE ((y9v tv.t.rts.length k).trans (by rw[hCN]));have hki64:z0p (k:Int):=by constructor <;> omega
       clear hCN;have HO:=hE (aIq o1 (aIq o3 o4));have HL:=hE hck1;clear hck1 o1 o3 o4;go_wp2_with (at_builtin;go_loud (refine z0g (c:=cI) _ rfl _ _ 31 rfl w5.heap.size 3 i0 _ 8 Tryz.underlying31 hi0 hz0 hz1 hz2 rfl (by decide) _ CN 0 rfl o7 [.int .i64 k] k ⟨rfl,hki64⟩ (by intro u hu;simp at hu;subst hu;rfl) _ rfl (by omega) (by omega) (by omega) ?_);intro v' w7 hown7 hf7 hs7;obtain ⟨A8,c8,hv7⟩:=hown7.form;rw[qL,List.length_singleton,HL.out] at hv7;subst hv7;have hg7:=hf7.blk hbi (by decide);have d6:=hg7.cell 6;have dl:=hg7.lt;have df:=hg7.free;simp only[gqA,gqZ,gqS] at d6)
       go_roundw
       case rel=>
        have hk1:k+1≤tv.t.rts.length:=hlt;obtain ⟨o1,o3,o4⟩:=HO.out;have p1:=((o1.frm hf7 (by decide) nZ).set gi 6 (.slice A8 (k+1) c8) 49 _ hg7 (by decide) nZ)
        have p3:=((o3.frm hf7 (by decide) nZ).set gi 6 (.slice A8 (k+1) c8) 49 _ hg7 (by decide) nZ)
        have p4:=((o4.frm hf7 (by decide) nZ).set gi 6 (.slice A8 (k+1) c8) 49 _ hg7 (by decide) nZ)
        have p7:=(hown7.set gi 6 (.slice A8 (k+1) c8) 49 _ hg7 (by decide) nZ)
        refine ⟨k+1,A8,c8,by go_num,hk1,p1,p3,p4,by rw[HST.out];exact p7,hg7.set 6 _,(hf7.keeps nL hsz hq).setCell (p:=⟨gi,6,none⟩) HGI.out _⟩
       case measure=>simp[intOf];omega
      ·have hki:¬(k:Int) < (tv.t.rts.length:Int):=by omega
       obtain ⟨iv,hiv⟩:∃ iv:z3o,iv=⟨z4x tv.t.rts.length tv.t.rts.length,A1,none,A3,A4,none,none,A7,24,0,24,tv.t.rts.length,0,0,c7⟩:=⟨_,rfl⟩
       have hkk:k=tv.t.rts.length:=by omega
       have hiO:y1m wr w5.heap.size iv:=by
        rw[hiv];refine ⟨?_,z07.nil _ _ _ _ nZ,?_,?_,z07.nil _ _ _ _ nZ,z07.nil _ _ _ _ nZ,?_⟩
        ·simpa [z4x] using o1
        ·simpa [z4x] using o3
        ·simpa [z4x] using o4
        ·have:=o7;rw[hkk] at this;simpa [z4x] using this
       have hbI:Blk wr gi 49 (z3q iv):=by rw[hiv];have:=hbi;rw[hkk] at this;simpa [z4x,z3q] using this
       have hii:iv.i=z4x tv.t.rts.length tv.t.rts.length:=by rw[hiv]
       obtain ⟨hu1,hio,hbs,hgs⟩:=HU.out;obtain ⟨hx1,htr,hb5⟩:=HX5.out;have hlg:=hbs.lt;have HJ0:=hE (show x5n tv iv w w4 w5 g1 gs gi wr u1 from ⟨hx1.now hq,hbs.now hq,hbI,HX4.out.2.1,z00 HQ5.out HQ5.out.size hq,(hio.now hq).lower nZ,hiO,hgs,HGS.out,hgg,by have:=HGI.out;omega,z00 hb5 hb5.size hq⟩);have HU1:=hE hu1;have HII:=hE hii;clear hiv hkk hiO hbI hii o1 o3 o4 o7 hbi hu1 hio hbs hgs hx1 htr hb5 hq hlg;go_wp2_with fail
       go_loopw [49] (fun a wz=>∃ (m:Nat) (um:z1r),a=.int .i64 m∧m≤13∧um.i=z5y tv.t (z5y tv.t (y66 tv.t) ins) (List.replicate m iv.i)∧x5n tv iv w w4 w5 g1 gs gi wz um) (fun n _=>13 - (intOf n).toNat)
       case atStart=>exact ⟨0,u1,rfl,by omega,HU1.out,HJ0.out⟩
       case round=>
        obtain ⟨wz,hww⟩:∃ W,W=wr:=⟨_,rfl⟩
        subst hww;obtain ⟨m,um,rfl,hml,hum,hJ⟩:=hrel;clear HJ0;by_cases hlm:m < 13
        ·have hmi:(m:Int) < 13:=by omega
         have hsm:z7t tv.t um.i=true:=by rw[hum];exact y44 _ (y44 _ (z1f.2 (y67 HCK.out)))
         have HCY:=hE (z7h tv um iv wz hJ.tr hJ.it.rd hJ.io.rd HTS.out hsm (by rw[HII.out];simp[z4x]));have HUE:Hid (z4c tv.t um.i iv.i=z5y tv.t (z5y tv.t (y66 tv.t) ins) (List.replicate (m+1) iv.i)):=hE (by rw[hum];exact x6b m);have ld0:=z0c hJ.b1 5 rfl;have ld1:=z0c hJ.bs 2 rfl;have ld2:=z0c hJ.bi 7 rfl;have l0:=hJ.b1.lt;have l1:=hJ.bs.lt;have l2:=hJ.bi.lt;have HJ:=hE hJ;clear hJ hum hsm;go_wp2_with fail
         refine HCY.out.mono ?_;rintro e w8 ⟨u8,Ac,Al,Ar,cc,nl,cl,nr,cr,rfl,hu8,ho8,-,hq8⟩;clear HCY ld0 ld1 ld2 l0 l1 l2;have hJ8:=HJ.out.now hq8;have r0:=hJ8.bs.cell 0;have r1:=hJ8.bs.cell 1;have rf:=hJ8.bs.free;have rl:=hJ8.bs.lt;simp only[gqA,gqZ,gqS] at r0 r1;have HJ9:=hE (hJ8.put (u':=u8) (ho8.lower nZ));have HU8:=hE (hu8.trans HUE.out);clear hJ8 hu8 ho8 hq8;go_wp2_with fail
         go_roundw
         case rel=>
          have hm1:m+1≤13:=by omega
          exact ⟨m+1,u8,by go_num,hm1,HU8.out,HJ9.out⟩
         case measure=>simp[intOf];omega
        ·have hmi:¬(m:Int) < 13:=by omega
         have hm13:m=13:=by omega
         rw[hm13,HII.out] at hum;have hci:=x2d (j0q HCK.out) (z1f.1 (y44 ins (z1f.2 (y67 HCK.out))));rw[←hum] at hci;have HI:=hE (x7c um wz hJ.it.rd);rw[x7b hci.2] at HI;have c7:=hJ.bs.cell 0;have c5:=hJ.b1.cell 0;simp only[gqA,gqZ,gqS] at c7 c5;rw[hci.1] at c7;have ld1:=z0c hJ.bs 2 rfl;have l1:=hJ.bs.lt;have l0:=hJ.b1.lt;have HJ:=hE hJ;have hl1:=hci.1;clear hJ hum hci hm13;have HA:=hE fun W' h=>alive_any W' (E.now (z00 HJ.out.bel HJ.out.bel.size h))
         clear hl1;go_wp2_with fail
         refine HI.out.mono ?_;rintro e w9 ⟨rfl,hq9⟩;have HA9:=hE (HA.out w9 hq9);clear HI HA ld1 c7 c5 l1 l0;go_wp2_with fail
         refine HA9.out.mono ?_;rintro e wx ⟨rfl,hqx⟩;have hbx:=z00 (z00 HJ.out.bel HJ.out.bel.size hq9) (nR HJ.out.bel.size hq9.size) hqx;clear HA9;go_wp2_with fail
         go_ret;exact ⟨rfl,hbx⟩
    refine j3e tv g1 HX5.out.1 hnr rfl rfl ?_;intro a6 w6 gi A1 A3 A4 hts hdf e4 e5 e7 e8 o1 o3 o4 hbi hgi hq6;have d4:a6.eval (.tmp 4)=.bool false:=e4;have d5:a6.eval (.tmp 5)=.pointer (some ⟨g1,0,none⟩):=e5;have d7:a6.eval (.tmp 7)=.pointer (some ⟨gs,0,none⟩):=e7;rw[z06] at d4 d5 d7 e8;have htm:=y1q a6.tmps 73 hts;simp only[tmL] at htm;rw[d4,d5,d7,e8] at htm;have ha:=y1p htm hdf;rw[ha];exact TAIL5 w6 gi A1 A3 A4 _ _ _ _ _ _ _ _ _ _ _ _ _ _ _ _ _ _ _ _ _ _ _ _ _ _ _ _ _ _ _ _ _ _ _ _ _ _ _ _ _ _ _ _ _ _ _ _ _ _ _ _ _ _ _ _ _ _ _ _ _ _ _ _ _ _ _ _ _ o1 o3 o4 hbi hgi hq6
   obtain ⟨hx1,htr,hb4⟩:=HX4.out;refine j3d tv g1 ins Ai ci hx1 htr HTS.out HCK.out (hi.now hb4) hn.1 hca rfl rfl rfl ?_;intro a5 w5 gs u1 hts hdf e4 e5 e7 hu1 hio hbs hgs hq5;have d4:a5.eval (.tmp 4)=.bool false:=e4;have d5:a5.eval (.tmp 5)=.pointer (some ⟨g1,0,none⟩):=e5;rw[z06] at d4 d5 e7;have htm:=y1q a5.tmps 73 hts;simp only[tmL] at htm;rw[d4,d5,e7] at htm;have ha:=y1p htm hdf;rw[ha];exact TAIL4 w5 gs u1 _ _ _ _ _ _ _ _ _ _ _ _ _ _ _ _ _ _ _ _ _ _ _ _ _ _ _ _ _ _ _ _ _ _ _ _ _ _ _ _ _ _ _ _ _ _ _ _ _ _ _ _ _ _ _ _ _ _ _ _ _ _ _ _ _ _ _ _ _ _ hu1 hio hbs hgs hq5
end Go.Proofs.YtpenlfedkacglaaGreatDoor
