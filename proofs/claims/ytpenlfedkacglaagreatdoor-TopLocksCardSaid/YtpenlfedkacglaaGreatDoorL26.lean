import Derived.Test.YtpenlfedkacglaaGreatDoorL24
import Derived.Test.YtpenlfedkacglaaGreatDoorL25
set_option maxRecDepth 100000
set_option maxHeartbeats 40000000
set_option linter.all false
namespace Go.Proofs.YtpenlfedkacglaaGreatDoor
open Go.RowKit
attribute [local go_sem] z05 z07 z01 z02
attribute [-go_sem] run_equalIn_agg
attribute [-go_sem] loadCellsFrom
structure y6o (w:World) (base:Nat) (i:z3n):Prop where
 o1:z09 cB w base 4 (.slice i.A1 i.i.occ.length i.c1) i.i.occ 0
 o2:z09 cI w base 3 (.slice i.A2 i.i.det.length i.c2) i.i.det 0
 o3:z09 cB w base 4 (.slice i.A3 i.i.clo.length i.c3) i.i.clo 0
 o4:z09 cB w base 4 (.slice i.A4 i.i.cla.length i.c4) i.i.cla 0
 o5:z09 cB w base 4 (.slice i.A5 i.i.pas.length i.c5) i.i.pas 0
 o6:z09 cI w base 3 (.slice i.A6 i.i.calls.length i.c6) i.i.calls 0
 o7:z09 cI w base 3 (.slice i.A7 i.i.cans.length i.c7) i.i.cans 0
section
variable {w w':World} {base base':Nat} {i:z3n}
theorem y6o.now (h:y6o w base i) (hb:Below w.heap.size w w'):y6o w' base i:=⟨h.o1.now hb,h.o2.now hb,h.o3.now hb,h.o4.now hb,h.o5.now hb,h.o6.now hb,h.o7.now hb⟩
theorem y6o.lower (h:y6o w base i) (hb:base'≤base):y6o w base' i:=⟨h.o1.lower hb,h.o2.lower hb,h.o3.lower hb,h.o4.lower hb,h.o5.lower hb,h.o6.lower hb,h.o7.lower hb⟩
theorem y6o.frm {b2:Nat} {T:TypeId} (h:y6o w base i) (hf:Frm b2 T w w') (h1:4≠T) (h2:3≠T):y6o w' base i:=⟨h.o1.frm hf h1 nZ,h.o2.frm hf h2 nZ,h.o3.frm hf h1 nZ,h.o4.frm hf h1 nZ,h.o5.frm hf h1 nZ,h.o6.frm hf h2 nZ,h.o7.frm hf h2 nZ⟩
theorem y6o.rd (h:y6o w base i):y1d w i:=⟨h.o1.rdn.2.more fun b h=>h.2,h.o2.rdn.2.more fun b h=>h.2,h.o3.rdn.2.more fun b h=>h.2,h.o4.rdn.2.more fun b h=>h.2,h.o5.rdn.2.more fun b h=>h.2,h.o6.rdn.2.more fun b h=>h.2,h.o7.rdn.2.more fun b h=>h.2,h.o1.rdn.1,h.o2.rdn.1,h.o3.rdn.1,h.o4.rdn.1,h.o5.rdn.1,h.o6.rdn.1,h.o7.rdn.1⟩
theorem ItO.frm {b2:Nat} {T:TypeId} {u:z1r} (h:ItO w base u) (hf:Frm b2 T w w') (h1:58≠T) (h2:3≠T):ItO w' base u:=⟨h.o1.frm hf h1 nZ,h.o2.frm hf h2 nZ⟩
end
theorem y7p (n:Nat) (m:Int) (hm:m=(n:Int)) (hn:n≤1000000) (W:World):(Instr.makeSlice 43 (.int .i64 m) (.int .i64 m)).run Tryz.prog W=.ok (.slice (some ⟨W.heap.size,0,none⟩) n n) (W.alloc (.cells (List.replicate n (Value.bool false)).toArray 4)):=by subst hm;exact x4c n hn W
theorem y0g (n:Nat) (hn:n≤maxLen) (W:World):z09 cB (W.alloc (.cells (List.replicate n (Value.bool false)).toArray 4)) W.heap.size 4 (.slice (some ⟨W.heap.size,0,none⟩) n n) (List.replicate n false) 0:=by
 rw[←y7z];exact z9n z9w (x:=false) (ys:=[.bool false]) (fun _ _=>rfl) nL hn
def y5s:Array Oper:=#[.mk (some 13) (.makeSlice 43 (.const (.int .i64 3)) (.const (.int .i64 3))) 43 "top23.go:37" #[] none,.mk (some 14) (.makeSlice 43 (.const (.int .i64 3)) (.const (.int .i64 3))) 43 "top23.go:37" #[] none,.mk (some 15) (.makeSlice 43 (.const (.int .i64 2)) (.const (.int .i64 2))) 43 "top23.go:37" #[] none,.mk (some 16) (.buildSlice 31 1 #[(0,.const (.int .i64 0))]) 31 "top23.go:37" #[] none,.mk (some 17) (.build 49 #[(0,.tmp 13),(2,.tmp 14),(3,.tmp 15),(5,.tmp 16)]) 49 "top23.go:37" #[.mk 0 .data,.mk 1 .data,.mk 2 .data,.mk 3 .data] none,.mk (some 3) (.alloc 49) 0 "top23.go:37" #[] none,.mk none (.store 49 (.tmp 3) (.tmp 17)) 0 "top23.go:37" #[.mk 5 .data,.mk 4 .data,.mk 0 .phase,.mk 1 .phase,.mk 2 .phase,.mk 3 .phase,.mk 4 .phase,.mk 5 .phase] none]
def x68 (q:Nat) (W:World) (j:Nat) (y:Value) (w:World):Prop:=match j with
 | 0=>∃ A:Option Addr,y=.slice A 3 3∧z09 cB w W.heap.size 4 (.slice A 3 3) (List.replicate 3 false) 0
 | 1=>∃ A:Option Addr,y=.slice A 3 3∧z09 cB w W.heap.size 4 (.slice A 3 3) (List.replicate 3 false) 0
 | 2=>∃ A:Option Addr,y=.slice A 2 2∧z09 cB w W.heap.size 4 (.slice A 2 2) (List.replicate 2 false) 0
 | 3=>∃ A:Option Addr,y=.slice A 1 1∧z09 cI w W.heap.size 3 (.slice A 1 1) [0] 0
 | 4=>∃ i:z3n,y=.agg (z3t i)∧i.i=y3y∧y6o w W.heap.size i
 | 5=>∃ g:Nat,y=.pointer (some ⟨g,0,none⟩)∧W.heap.size≤g∧Blk w g 49 #[.slice none 0 0,.slice none 0 0,.slice none 0 0,.slice none 0 0,.slice none 0 0,.slice none 0 0,.slice none 0 0]
 | _=>True
theorem j9d {q:Nat} {W:World}:∀ (j:Nat) (y:Value) (w w':World),x68 q W j y w→Below w.heap.size w w'→x68 q W j y w'
 | 0,y,w,w',h,hb=>(let ⟨A,h1,h2⟩:=h;⟨A,h1,h2.now hb⟩)
 | 1,y,w,w',h,hb=>(let ⟨A,h1,h2⟩:=h;⟨A,h1,h2.now hb⟩)
 | 2,y,w,w',h,hb=>(let ⟨A,h1,h2⟩:=h;⟨A,h1,h2.now hb⟩)
 | 3,y,w,w',h,hb=>(let ⟨A,h1,h2⟩:=h;⟨A,h1,h2.now hb⟩)
 | 4,y,w,w',h,hb=>(let ⟨i,h1,h2,h3⟩:=h;⟨i,h1,h2,h3.now hb⟩)
 | 5,y,w,w',h,hb=>(let ⟨g,h1,h2,h3⟩:=h;⟨g,h1,h2,h3.now hb⟩)
 | _+6,_,_,_,_,_=>trivial
theorem j6v {Q:Exit→Act→World→Prop} {id:Nat} {a0:Act} {W:World} (q:Nat) (hq:q=0) (h0:a0.tmps.size=72)
  (hend:∀ a w,a.tmps.size=72→a.defers=a0.defers→(∀ s,s∉(List.range 6).map (z7i y5s)→a.eval (.tmp s)=a0.eval (.tmp s))→Below W.heap.size W w→(∀ j,j < 6→x68 q W j (a.eval (.tmp (z7i y5s j))) w)→wpAny Tryz.prog .any y5s Q 1 #[true,true,true,true,true,true,false] a w):(Code.region id y5s true).wp Tryz.prog Q a0 W:=by
 refine z6a 6 1 72 #[true,true,true,true,true,true,false] (by kernel_rfl) (by kernel_rfl) h0 (by kernel_rfl) (by kernel_rfl) (x68 q W) j9d ?_ hend;intro jx hjx a w hts hdf hk hb hd;clear hend hdf h0;have hc:jx=0∨jx=1∨jx=2∨jx=3∨jx=4∨jx=5:=by omega
 rcases hc with rfl | rfl | rfl | rfl | rfl | rfl
 ·refine x22 rfl fun K hK=>?_
  clear hk hd hts ;have hz:=hb.size;have mk:=y7p 3 3 rfl (by omega) w;go_simp
  exact hK.out _ _ (bQ.alloc nL _) ⟨_,rfl,(y0g 3 (by unfold maxLen;omega) w).lower hz⟩
 ·refine x22 rfl fun K hK=>?_
  clear hk hd hts ;have hz:=hb.size;have mk:=y7p 3 3 rfl (by omega) w;go_simp
  exact hK.out _ _ (bQ.alloc nL _) ⟨_,rfl,(y0g 3 (by unfold maxLen;omega) w).lower hz⟩
 ·refine x22 rfl fun K hK=>?_
  clear hk hd hts ;have hz:=hb.size;have mk:=y7p 2 2 rfl (by omega) w;go_simp
  exact hK.out _ _ (bQ.alloc nL _) ⟨_,rfl,(y0g 2 (by unfold maxLen;omega) w).lower hz⟩
 ·refine x22 rfl fun K hK=>?_
  clear hk hd hts ;have hz:=hb.size;go_simp
  exact hK.out _ _ (bQ.alloc nL _) ⟨_,rfl,z6h (n:=1) (cs:=#[.int .i64 0]) (Blk.new _ _ _ _ rfl) hz (by unfold maxLen;omega) rfl rfl ⟨_,_,rfl,⟨rfl,y5d⟩,rfl⟩⟩
 ·refine x22 rfl fun K hK=>?_
  obtain ⟨Aa,e0,he0⟩:=y52 (s:=13) hd rfl 0 rfl rfl rfl rfl;rw[z06] at e0;obtain ⟨Ab,e1,he1⟩:=y52 (s:=14) hd rfl 1 rfl rfl rfl rfl;rw[z06] at e1;obtain ⟨Ac,e2,he2⟩:=y52 (s:=15) hd rfl 2 rfl rfl rfl rfl;rw[z06] at e2;obtain ⟨Ad,e3,he3⟩:=y52 (s:=16) hd rfl 3 rfl rfl rfl rfl;rw[z06] at e3;clear hk hd hts ;have HO:=hE (aIq he0 (aIq he1 (aIq he2 he3)));clear he0 he1 he2 he3;go_simp
  obtain ⟨h0,h1,h2,h3⟩:=HO.out;exact hK.out _ _ bQ ⟨⟨y3y,Aa,none,Ab,Ac,none,Ad,none,3,0,3,2,0,1,0⟩,rfl,rfl,⟨h0,z09.nil _ _ _ _ nZ,h1,h2,z09.nil _ _ _ _ nZ,h3,z09.nil _ _ _ _ nZ⟩⟩
 ·refine x22 rfl fun K hK=>?_
  clear hk hd hts ;have hz:=hb.size;go_simp
  exact hK.out _ _ (bQ.alloc nL _) ⟨_,rfl,hz,Blk.new _ _ _ _ rfl⟩
theorem j0l {Q:Exit→Act→World→Prop} {id:Nat} {a0:Act} {W:World} (h0:a0.tmps.size=72)
  (hend:∀ a (w:World) (g:Nat) (i:z3n),a.tmps.size=72→a.defers=a0.defers→a.eval (.tmp 0)=a0.eval (.tmp 0)→a.eval (.tmp 1)=a0.eval (.tmp 1)→a.eval (.tmp 2)=a0.eval (.tmp 2)→a.eval (.tmp 3)=.pointer (some ⟨g,0,none⟩)→i.i=y3y→y6o w W.heap.size i→Blk w g 49 (z3t i)→Below W.heap.size W w→Q .normal a w):(Code.region id y5s true).wp Tryz.prog Q a0 W:=by
 refine j6v 0 rfl h0 ?_;intro a w hts hdf hk hb hp;obtain ⟨i,e17,hi,ho⟩:∃ i:z3n,a.eval (.tmp 17)=.agg (z3t i)∧i.i=y3y∧y6o w W.heap.size i:=hp 4 (by decide);obtain ⟨g,e3,hg,hbk⟩:∃ g:Nat,a.eval (.tmp 3)=.pointer (some ⟨g,0,none⟩)∧W.heap.size≤g∧Blk w g 49 #[.slice none 0 0,.slice none 0 0,.slice none 0 0,.slice none 0 0,.slice none 0 0,.slice none 0 0,.slice none 0 0]:=hp 5 (by decide);refine z6m (i:=6) (by kernel_rfl) ?_;refine z4r rfl ?_;refine z1b rfl _ _ _ rfl g (z3t i) e3 e17 49 #[.slice none 0 0,.slice none 0 0,.slice none 0 0,.slice none 0 0,.slice none 0 0,.slice none 0 0,.slice none 0 0] hbk (by kernel_rfl) rfl (by simp[Value.oneCell']) ?_;refine z7w (by kernel_rfl) ?_;have p1:=z0q (z3t i) hbk;exact hend _ _ g i hts hdf (hk 0 (by decide +kernel)) (hk 1 (by decide +kernel)) (hk 2 (by decide +kernel)) e3 hi (ho.frm p1.2 (by decide) (by decide)) p1.1 (hb.trans ((z3v (z3t i) hbk).2.mono hg))
def x4s:Array Oper:=#[.mk (some 27) (.load 33 (.tmp 1)) 33 "top23.go:41" #[] none,.mk (some 28) (.load 33 (.tmp 1)) 33 "top23.go:41" #[] none,.mk (some 29) (.call (.mk (.value (.func 8)) #[.tmp 28] #[33])) 41 "top23.go:41" #[.mk 1 .data] none,.mk (some 30) (.load 49 (.tmp 3)) 49 "top23.go:41" #[] none,.mk (some 31) (.call (.mk (.value (.func 9)) #[.tmp 27,.tmp 29,.tmp 30] #[33,41,49])) 46 "top23.go:41" #[.mk 0 .data,.mk 2 .data,.mk 3 .data,.mk 2 .chain] none,.mk (some 26) (.move (.tmp 31)) 46 "top23.go:41" #[.mk 4 .data] none,.mk (some 32) (.extract (.tmp 26) 0) 41 "top23.go:41" #[.mk 5 .data] none,.mk (some 33) (.extract (.tmp 26) 1) 45 "top23.go:41" #[.mk 5 .data,.mk 10 (.gcOnly Go.Departure.lateStores)] none,.mk (some 4) (.alloc 41) 0 "top23.go:41" #[] none,.mk (some 5) (.alloc 45) 0 "top23.go:41" #[] none,.mk none (.store 41 (.tmp 4) (.tmp 32)) 0 "top23.go:41" #[.mk 8 .data,.mk 6 .data,.mk 4 .chain,.mk 0 .phase,.mk 1 .phase,.mk 2 .phase,.mk 3 .phase,.mk 4 .phase,.mk 5 .phase,.mk 6 .phase,.mk 7 (.textOnly Go.Departure.lateStores),.mk 8 .phase,.mk 9 .phase] none,.mk none (.store 45 (.tmp 5) (.tmp 33)) 0 "top23.go:41" #[.mk 9 .data,.mk 7 .data,.mk 10 .chain,.mk 0 .phase,.mk 1 .phase,.mk 2 .phase,.mk 3 .phase,.mk 4 .phase,.mk 5 .phase,.mk 6 .phase,.mk 7 .phase,.mk 8 .phase,.mk 9 .phase,.mk 10 .phase] none]
def j3v (j:Nat):Nat:=([27,28,29,30,31,26,32,33,4,5,4]:List Nat).getD j 0
def y9y (v:z1w) (i:z3n) (B gi:Nat) (s:Itr) (W:World) (j:Nat) (y:Value) (w:World):Prop:=match j with
 | 0=>y=.agg (z0t v)
 | 1=>y=.agg (z0t v)
 | 2=>∃ u':z1r,y=.agg #[.slice u'.A1 u'.i.rts.length u'.c1,.slice u'.A2 u'.i.lies.length u'.c2]∧u'.i=s∧ItO w W.heap.size u'
 | 3=>y=.agg (z3t i)
 | 4=>∃ (u':z1r) (Ac Al Ar:Option Addr) (cc nl cl nr cr:Nat),y=.tuple #[.agg #[.slice u'.A1 u'.i.rts.length u'.c1,.slice u'.A2 u'.i.lies.length u'.c2],.agg #[.slice Ac (z2d v.t (z1s v.t s i.i)).length cc,.slice Al nl cl,.slice Ar nr cr]]∧u'.i=z1s v.t s i.i∧ItO w W.heap.size u'∧z09 cB w W.heap.size 4 (.slice Ac (z2d v.t (z1s v.t s i.i)).length cc) (z2d v.t (z1s v.t s i.i)) 0
 | 5=>∃ (u':z1r) (Ac Al Ar:Option Addr) (cc nl cl nr cr:Nat),y=.tuple #[.agg #[.slice u'.A1 u'.i.rts.length u'.c1,.slice u'.A2 u'.i.lies.length u'.c2],.agg #[.slice Ac (z2d v.t (z1s v.t s i.i)).length cc,.slice Al nl cl,.slice Ar nr cr]]∧u'.i=z1s v.t s i.i∧ItO w W.heap.size u'∧z09 cB w W.heap.size 4 (.slice Ac (z2d v.t (z1s v.t s i.i)).length cc) (z2d v.t (z1s v.t s i.i)) 0
 | 6=>∃ u':z1r,y=.agg #[.slice u'.A1 u'.i.rts.length u'.c1,.slice u'.A2 u'.i.lies.length u'.c2]∧u'.i=z1s v.t s i.i∧ItO w W.heap.size u'
 | 7=>∃ (Ac Al Ar:Option Addr) (cc nl cl nr cr:Nat),y=.agg #[.slice Ac (z2d v.t (z1s v.t s i.i)).length cc,.slice Al nl cl,.slice Ar nr cr]∧z09 cB w W.heap.size 4 (.slice Ac (z2d v.t (z1s v.t s i.i)).length cc) (z2d v.t (z1s v.t s i.i)) 0
 | 8=>∃ (g:Nat) (a b:Value),y=.pointer (some ⟨g,0,none⟩)∧W.heap.size≤g∧Blk w g 41 #[a,b]
 | 9=>∃ g:Nat,y=.pointer (some ⟨g,0,none⟩)∧W.heap.size≤g∧Blk w g 45 #[.slice none 0 0,.slice none 0 0,.slice none 0 0]
 | 10=>∃ (g:Nat) (u':z1r),y=.pointer (some ⟨g,0,none⟩)∧W.heap.size≤g∧Blk w g 41 #[.slice u'.A1 u'.i.rts.length u'.c1,.slice u'.A2 u'.i.lies.length u'.c2]∧u'.i=z1s v.t s i.i∧ItO w W.heap.size u'
 | _=>True
theorem y1r {v:z1w} {i:z3n} {B gi:Nat} {s:Itr} {W:World}:∀ (j:Nat) (y:Value) (w w':World),y9y v i B gi s W j y w→Below w.heap.size w w'→y9y v i B gi s W j y w'
 | 0,y,w,w',h,hb=>h
 | 1,y,w,w',h,hb=>h
 | 2,y,w,w',h,hb=>(let ⟨u',h1,h2,h3⟩:=h;⟨u',h1,h2,h3.now hb⟩)
 | 3,y,w,w',h,hb=>h
 | 4,y,w,w',h,hb=>(let ⟨u',Ac,Al,Ar,cc,nl,cl,nr,cr,h1,h2,h3,h4⟩:=h;⟨u',Ac,Al,Ar,cc,nl,cl,nr,cr,h1,h2,h3.now hb,h4.now hb⟩)
 | 5,y,w,w',h,hb=>(let ⟨u',Ac,Al,Ar,cc,nl,cl,nr,cr,h1,h2,h3,h4⟩:=h;⟨u',Ac,Al,Ar,cc,nl,cl,nr,cr,h1,h2,h3.now hb,h4.now hb⟩)
 | 6,y,w,w',h,hb=>(let ⟨u',h1,h2,h3⟩:=h;⟨u',h1,h2,h3.now hb⟩)
 | 7,y,w,w',h,hb=>(let ⟨Ac,Al,Ar,cc,nl,cl,nr,cr,h1,h2⟩:=h;⟨Ac,Al,Ar,cc,nl,cl,nr,cr,h1,h2.now hb⟩)
 | 8,y,w,w',h,hb=>(let ⟨g,a,b,h1,h2,h3⟩:=h;⟨g,a,b,h1,h2,h3.now hb⟩)
 | 9,y,w,w',h,hb=>(let ⟨g,h1,h2,h3⟩:=h;⟨g,h1,h2,h3.now hb⟩)
 | 10,y,w,w',h,hb=>(let ⟨g,u',h1,h2,h3,h4,h5⟩:=h;⟨g,u',h1,h2,h3.now hb,h4,h5.now hb⟩)
 | _+11,_,_,_,_,_=>trivial
theorem j7j {v:z1w} {i:z3n} {B gi:Nat} {s:Itr} {W:World}:∀ (j:Nat) (y:Value) (w:World) (g:Nat) (b0 b1 x1 x2:Value),j≠10→Blk w g 41 #[b0,b1]→y9y v i B gi s W j y w→y9y v i B gi s W j y (w.setRow g #[x1,x2])
 | 0,y,w,g,b0,b1,x1,x2,hj,hbk,h=>h
 | 1,y,w,g,b0,b1,x1,x2,hj,hbk,h=>h
 | 2,y,w,g,b0,b1,x1,x2,hj,hbk,h=>(let ⟨u',h1,h2,h3⟩:=h;⟨u',h1,h2,h3.frm (z0q #[x1,x2] hbk).2 (by decide) (by decide)⟩)
 | 3,y,w,g,b0,b1,x1,x2,hj,hbk,h=>h
 | 4,y,w,g,b0,b1,x1,x2,hj,hbk,h=>(let ⟨u',Ac,Al,Ar,cc,nl,cl,nr,cr,h1,h2,h3,h4⟩:=h;⟨u',Ac,Al,Ar,cc,nl,cl,nr,cr,h1,h2,h3.frm (z0q #[x1,x2] hbk).2 (by decide) (by decide),h4.frm (z0q #[x1,x2] hbk).2 (by decide) nZ⟩)
 | 5,y,w,g,b0,b1,x1,x2,hj,hbk,h=>(let ⟨u',Ac,Al,Ar,cc,nl,cl,nr,cr,h1,h2,h3,h4⟩:=h;⟨u',Ac,Al,Ar,cc,nl,cl,nr,cr,h1,h2,h3.frm (z0q #[x1,x2] hbk).2 (by decide) (by decide),h4.frm (z0q #[x1,x2] hbk).2 (by decide) nZ⟩)
 | 6,y,w,g,b0,b1,x1,x2,hj,hbk,h=>(let ⟨u',h1,h2,h3⟩:=h;⟨u',h1,h2,h3.frm (z0q #[x1,x2] hbk).2 (by decide) (by decide)⟩)
 | 7,y,w,g,b0,b1,x1,x2,hj,hbk,h=>(let ⟨Ac,Al,Ar,cc,nl,cl,nr,cr,h1,h2⟩:=h;⟨Ac,Al,Ar,cc,nl,cl,nr,cr,h1,h2.frm (z0q #[x1,x2] hbk).2 (by decide) nZ⟩)
 | 8,y,w,g,b0,b1,x1,x2,hj,hbk,h=>(let ⟨g',a,b,h1,h2,h3⟩:=h;if he:g' = g then ⟨g',x1,x2,h1,h2,he▸(z0q #[x1,x2] hbk).1⟩ else ⟨g',a,b,h1,h2,(setRow_other w g g' #[x1,x2] he).trans h3⟩)
 | 9,y,w,g,b0,b1,x1,x2,hj,hbk,h=>(let ⟨g',h1,h2,h3⟩:=h;⟨g',h1,h2,(z0q #[x1,x2] hbk).2.blk h3 (by decide)⟩)
 | 10,y,w,g,b0,b1,x1,x2,hj,hbk,h=>absurd rfl hj
 | _+11,_,_,_,_,_,_,_,_,_,_=>trivial
theorem j6w {Q:Exit→Act→World→Prop} {id:Nat} {a0:Act} {W:World} (v:z1w) (i:z3n) (B gi:Nat) (s:Itr) (x0:Blk W B 33 (z0t v)) (x1:Blk W gi 49 (z3t i)) (hr:TvR W v) (hi:y1d W i) (hS:y4p v.t) (hck:z4y v.t=0) (hst:x26 v.t=s) (hca:i.i.calls.length≤80000) (h0:a0.tmps.size=72) (T1:a0.eval (.tmp 1)=.pointer (some ⟨B,0,none⟩)) (T3:a0.eval (.tmp 3)=.pointer (some ⟨gi,0,none⟩))
  (hend:∀ a w,a.tmps.size=72→a.defers=a0.defers→(∀ s,s∉(List.range 11).map (j3v)→a.eval (.tmp s)=a0.eval (.tmp s))→Below W.heap.size W w→(∀ j,j < 11→y9y v i B gi s W j (a.eval (.tmp (j3v j))) w)→wpAny Tryz.prog .any x4s Q 1 #[true,true,true,true,true,true,true,true,true,true,true,false] a w):(Code.region id x4s true).wp Tryz.prog Q a0 W:=by
 refine z6b 11 1 72 j3v #[true,true,true,true,true,true,true,true,true,true,true,false] (by kernel_rfl) (by kernel_rfl) h0 (by kernel_rfl) (by kernel_rfl) (y9y v i B gi s W) ?_ hend;intro jx hjx a w hts hdf hk hb hd;clear hend hdf h0;have hc:jx=0∨jx=1∨jx=2∨jx=3∨jx=4∨jx=5∨jx=6∨jx=7∨jx=8∨jx=9∨jx=10:=by omega
 rcases hc with rfl | rfl | rfl | rfl | rfl | rfl | rfl | rfl | rfl | rfl | rfl
 ·refine y1i rfl rfl (by rw[hts];decide) hb y1r fun K hK=>?_
  have t1:=(hk 1 (by decide +kernel)).trans T1;rw[z06] at t1;clear hk hd hts T1 T3;have ld:=z0c (x0.now hb) 5 rfl;clear x0 x1 hr hi hS hck hst hca;go_simp
  exact hK.out _ _ bQ rfl
 ·refine y1i rfl rfl (by rw[hts];decide) hb y1r fun K hK=>?_
  have t1:=(hk 1 (by decide +kernel)).trans T1;rw[z06] at t1;clear hk hd hts T1 T3;have ld:=z0c (x0.now hb) 5 rfl;clear x0 x1 hr hi hS hck hst hca;go_simp
  exact hK.out _ _ bQ rfl
 ·refine y1i rfl rfl (by rw[hts];decide) hb y1r fun K hK=>?_
  have e1:_=_:=z4g (s:=28) hd rfl 0 rfl rfl rfl rfl;rw[z06] at e1;clear hk hd hts T1 T3;have HC:=hE (y6e v w (hr.now hb) hS.ok hck);have hz:=hb.size;have HST:=hE hst;clear x0 x1 hr hi hS hck hst hca;go_simp
  refine HC.out.mono ?_;rintro e w2 ⟨u',rfl,hu,ho,hq⟩;exact hK.out _ _ hq ⟨u',rfl,hu.trans HST.out,ho.lower hz⟩
 ·refine y1i rfl rfl (by rw[hts];decide) hb y1r fun K hK=>?_
  have t3:=(hk 3 (by decide +kernel)).trans T3;rw[z06] at t3;clear hk hd hts T1 T3;have ld:=z0c (x1.now hb) 7 rfl;clear x0 x1 hr hi hS hck hst hca;go_simp
  exact hK.out _ _ bQ rfl
 ·refine y1i rfl rfl (by rw[hts];decide) hb y1r fun K hK=>?_
  have e0:_=_:=z4g (s:=27) hd rfl 0 rfl rfl rfl rfl;rw[z06] at e0;obtain ⟨u1,e2,hu1,hu2⟩:=z4g (s:=29) hd rfl 1 rfl rfl rfl rfl;rw[z06] at e2;have e3:_=_:=z4g (s:=30) hd rfl 2 rfl rfl rfl rfl;rw[z06] at e3;clear hk hd hts T1 T3;have hsd:z7z v.t u1.i=true:=by rw[hu1,←hst];exact z1j.2 (x5s hck)
  have HC:=hE (y03 v u1 i w (hr.now hb) hu2.rd (hi.now hb) hS hsd hca);have hz:=hb.size;have HU1:=hE hu1;clear hsd hu1 hu2;clear x0 x1 hr hi hS hck hst hca;go_simp
  refine HC.out.mono ?_;rintro e w2 ⟨u',Ac,Al,Ar,cc,nl,cl,nr,cr,rfl,hu,ho,hoc,hq⟩;rw[HU1.out] at hu;have hsg:z2d v.t u'.i=z2d v.t (z1s v.t s i.i):=by rw[hu]
  rw[hsg] at hoc ⊢;exact hK.out _ _ hq ⟨u',Ac,Al,Ar,cc,nl,cl,nr,cr,rfl,hu,ho.lower hz,hoc.lower hz⟩
 ·refine y1i rfl rfl (by rw[hts];decide) hb y1r fun K hK=>?_
  obtain ⟨u',Ac,Al,Ar,cc,nl,cl,nr,cr,e4,hc1,hc2,hc3⟩:=z4g (s:=31) hd rfl 0 rfl rfl rfl rfl;rw[z06] at e4;clear hk hd hts T1 T3;have HC:=hE (aIq hc1 (aIq hc2 hc3));clear hc1 hc2 hc3 x0 x1 hr hi hS hck hst hca;go_simp
  exact hK.out _ _ bQ ⟨u',Ac,Al,Ar,cc,nl,cl,nr,cr,rfl,HC.out⟩
 ·refine y1i rfl rfl (by rw[hts];decide) hb y1r fun K hK=>?_
  obtain ⟨u',Ac,Al,Ar,cc,nl,cl,nr,cr,e5,hc1,hc2,hc3⟩:=z4g (s:=26) hd rfl 0 rfl rfl rfl rfl;rw[z06] at e5;clear hk hd hts T1 T3;have HC:=hE (aIq hc1 hc2);clear hc1 hc2 hc3 x0 x1 hr hi hS hck hst hca;go_simp
  exact hK.out _ _ bQ ⟨u',rfl,HC.out⟩
 ·refine y1i rfl rfl (by rw[hts];decide) hb y1r fun K hK=>?_
  obtain ⟨u',Ac,Al,Ar,cc,nl,cl,nr,cr,e5,hc1,hc2,hc3⟩:=z4g (s:=26) hd rfl 0 rfl rfl rfl rfl;rw[z06] at e5;clear hk hd hts T1 T3;have HC:=hE hc3;clear hc1 hc2 hc3 x0 x1 hr hi hS hck hst hca;go_simp
  exact hK.out _ _ bQ ⟨Ac,Al,Ar,cc,nl,cl,nr,cr,rfl,HC.out⟩
 ·refine y1i rfl rfl (by rw[hts];decide) hb y1r fun K hK=>?_
  clear hk hd hts T1 T3;have hz:=hb.size;clear x0 x1 hr hi hS hck hst hca;go_simp
  exact hK.out _ _ (bQ.alloc nL _) ⟨_,_,_,rfl,hz,Blk.new _ _ _ _ rfl⟩
 ·refine y1i rfl rfl (by rw[hts];decide) hb y1r fun K hK=>?_
  clear hk hd hts T1 T3;have hz:=hb.size;clear x0 x1 hr hi hS hck hst hca;go_simp
  exact hK.out _ _ (bQ.alloc nL _) ⟨_,rfl,hz,Blk.new _ _ _ _ rfl⟩
 ·refine j9u rfl fun K hK=>?_
  have p8:=z4g (s:=4) hd rfl 0 rfl rfl rfl rfl;have p6:=z4g (s:=32) hd rfl 1 rfl rfl rfl rfl;have p4:=z4g (s:=31) hd rfl 2 rfl rfl rfl rfl;obtain ⟨u',h6,hu1,hu2⟩:=(p6:∃ u':z1r,(a.eval (.tmp 32))=.agg #[.slice u'.A1 u'.i.rts.length u'.c1,.slice u'.A2 u'.i.lies.length u'.c2]∧u'.i=z1s v.t s i.i∧ItO w W.heap.size u')
  obtain ⟨g,b0,b1,h8,hg,hbk⟩:=(p8:∃ (g:Nat) (a_1 b:Value),a.eval (.tmp 4)=.pointer (some ⟨g,0,none⟩)∧W.heap.size≤g∧Blk w g 41 #[a_1,b])
  have q1:=z0q #[.slice u'.A1 u'.i.rts.length u'.c1,.slice u'.A2 u'.i.lies.length u'.c2] hbk;have hb7:=hb.trans ((z3v #[.slice u'.A1 u'.i.rts.length u'.c1,.slice u'.A2 u'.i.lies.length u'.c2] hbk).2.mono hg);exact z1b rfl _ _ _ rfl g #[.slice u'.A1 u'.i.rts.length u'.c1,.slice u'.A2 u'.i.lies.length u'.c2] h8 h6 41 #[b0,b1] hbk (by kernel_rfl) rfl (by simp[Value.oneCell']) (hK.out _ hb7 (fun j y hj hp=>j7j j y w g b0 b1 _ _ hj hbk hp) ⟨g,u',h8,hg,q1.1,hu1,hu2.frm q1.2 (by decide) (by decide)⟩)
theorem j0m {Q:Exit→Act→World→Prop} {id:Nat} {a0:Act} {W:World} (v:z1w) (i:z3n) (B gi:Nat) (s:Itr) (x0:Blk W B 33 (z0t v)) (x1:Blk W gi 49 (z3t i)) (hr:TvR W v) (hi:y1d W i) (hS:y4p v.t) (hck:z4y v.t=0) (hst:x26 v.t=s) (hca:i.i.calls.length≤80000) (h0:a0.tmps.size=72) (t1:a0.eval (.tmp 1)=.pointer (some ⟨B,0,none⟩)) (t3:a0.eval (.tmp 3)=.pointer (some ⟨gi,0,none⟩))
  (hend:∀ a (w:World) (g gO:Nat) (u':z1r) (Ac Al Ar:Option Addr) (cc nl cl nr cr:Nat),a.tmps.size=72→a.defers=a0.defers→a.eval (.tmp 0)=a0.eval (.tmp 0)→a.eval (.tmp 1)=a0.eval (.tmp 1)→a.eval (.tmp 3)=a0.eval (.tmp 3)→a.eval (.tmp 4)=.pointer (some ⟨g,0,none⟩)→a.eval (.tmp 5)=.pointer (some ⟨gO,0,none⟩)→u'.i=z1s v.t s i.i→ItO w W.heap.size u'→Blk w g 41 #[.slice u'.A1 u'.i.rts.length u'.c1,.slice u'.A2 u'.i.lies.length u'.c2]→Blk w gO 45 #[.slice Ac (z2d v.t (z1s v.t s i.i)).length cc,.slice Al nl cl,.slice Ar nr cr]→z09 cB w W.heap.size 4 (.slice Ac (z2d v.t (z1s v.t s i.i)).length cc) (z2d v.t (z1s v.t s i.i)) 0→W.heap.size≤g→W.heap.size≤gO→Below W.heap.size W w→Q .normal a w):(Code.region id x4s true).wp Tryz.prog Q a0 W:=by
 refine j6w v i B gi s x0 x1 hr hi hS hck hst hca h0 t1 t3 ?_;intro a w hts hdf hk hb hp;obtain ⟨g,u',e1,hg,hbk,hu1,hu2⟩:∃ (g:Nat) (u':z1r),a.eval (.tmp 4)=.pointer (some ⟨g,0,none⟩)∧W.heap.size≤g∧Blk w g 41 #[.slice u'.A1 u'.i.rts.length u'.c1,.slice u'.A2 u'.i.lies.length u'.c2]∧u'.i=z1s v.t s i.i∧ItO w W.heap.size u':=hp 10 (by decide);obtain ⟨gO,e2,hgO,hbO⟩:∃ g:Nat,a.eval (.tmp 5)=.pointer (some ⟨g,0,none⟩)∧W.heap.size≤g∧Blk w g 45 #[.slice none 0 0,.slice none 0 0,.slice none 0 0]:=hp 9 (by decide);obtain ⟨Ac,Al,Ar,cc,nl,cl,nr,cr,e3,ho⟩:∃ (Ac Al Ar:Option Addr) (cc nl cl nr cr:Nat),a.eval (.tmp 33)=.agg #[.slice Ac (z2d v.t (z1s v.t s i.i)).length cc,.slice Al nl cl,.slice Ar nr cr]∧z09 cB w W.heap.size 4 (.slice Ac (z2d v.t (z1s v.t s i.i)).length cc) (z2d v.t (z1s v.t s i.i)) 0:=hp 7 (by decide);refine z6m (i:=11) (by kernel_rfl) ?_;refine z4r rfl ?_;refine z1b rfl _ _ _ rfl gO #[.slice Ac (z2d v.t (z1s v.t s i.i)).length cc,.slice Al nl cl,.slice Ar nr cr] e2 e3 45 #[.slice none 0 0,.slice none 0 0,.slice none 0 0] hbO (by kernel_rfl) rfl (by simp[Value.oneCell']) ?_;refine z7w (by kernel_rfl) ?_;have p1:=z0q #[.slice Ac (z2d v.t (z1s v.t s i.i)).length cc,.slice Al nl cl,.slice Ar nr cr] hbO;exact hend _ _ g gO u' Ac Al Ar cc nl cl nr cr hts hdf (hk 0 (by decide +kernel)) (hk 1 (by decide +kernel)) (hk 3 (by decide +kernel)) e1 e2 hu1 (hu2.frm p1.2 (by decide) (by decide)) (p1.2.blk hbk (by decide)) p1.1 (ho.frm p1.2 (by decide) nZ) hg hgO (hb.trans ((z3v #[.slice Ac (z2d v.t (z1s v.t s i.i)).length cc,.slice Al nl cl,.slice Ar nr cr] hbO).2.mono hgO))
theorem j6g:z4y z92=0:=by decide +kernel
theorem j8s:y4p z92:=by
 intro r hr;simp only[z92,List.mem_cons,List.not_mem_nil,or_false] at hr;rcases hr with rfl | rfl <;> exact ⟨by simp,by simp,by simp,by simp,by simp,by simp,by simp⟩
theorem j6h:z7z z92 ⟨[⟨1,0,0⟩,⟨0,0,0⟩],[]⟩=true:=z1j.2 (x46▸y8h (x5s j6g))
theorem j8t:z7z z92 ⟨[⟨2,0,0⟩,⟨0,0,0⟩],[]⟩=true:=z1j.2 (x47▸y8h (z1j.1 j6h))
theorem alive_any (w:World) (E:y6n w):Calls Tryz.prog 7 #[] w fun e w'=>e=.returned (.bool true)∧Below w.heap.size w w':=by
 have HL:=hE (x8j w);go_enter Tryz.func7,Tryz.ntmps7
 go_wp2_with fail;refine HL.out.mono ?_;rintro e w2 ⟨lv,rfl,hl,hlr,hq2⟩;have HBD:=hE (y2x lv w2 (E.now hq2) hlr (by rw[hl];simp[y7n]));rw[hl,x8k] at HBD;unfold lvA at HBD;have HB2:=hE hq2;clear HL hl hlr hq2;go_wp2_with fail
 refine HBD.out.mono ?_;rintro e w3 ⟨tv,rfl,htv,htr,hq3⟩;clear HBD;dsimp only at htv ⊢;have hb3:=z00 HB2.out HB2.out.size hq3;obtain ⟨W4,hW4⟩:∃ W,W=w3.alloc (.cells (z0t tv) 33):=⟨_,rfl⟩
 have h4:Below w3.heap.size w3 W4:=by rw[hW4];exact bQ.alloc nL _
 have hx1:Blk W4 w3.heap.size 33 (z0t tv):=by rw[hW4];exact Blk.new _ _ _ _ rfl
 have HX:=hE (aIq hx1 (aIq (htr.now h4) (z00 hb3 hb3.size h4)));have HTV:=hE htv;clear hx1 htr h4 hb3 hq3 htv;go_wp2_with fail
 rw[←hW4];clear hW4;generalize w3.heap.size=g1 at *;rename_i K hK;have TAIL2:∀ (w5:World) (gi:Nat) (iv:z3n) (z4 z5 z6 z7 z8 z9 z10 z11 z12 z13 z14 z15 z16 z17 z18 z19 z20 z21 z22 z23 z24 z25 z26 z27 z28 z29 z30 z31 z32 z33 z34 z35 z36 z37 z38 z39 z40 z41 z42 z43 z44 z45 z46 z47 z48 z49 z50 z51 z52 z53 z54 z55 z56 z57 z58 z59 z60 z61 z62 z63 z64 z65 z66 z67 z68 z69 z70 z71:Value),iv.i=y3y→y6o w5 W4.heap.size iv→Blk w5 gi 49 (z3t iv)→Below W4.heap.size W4 w5→K { tmps:=#[.bool false,.pointer (some ⟨g1,0,none⟩),.int .i64 0,.pointer (some ⟨gi,0,none⟩),z4,z5,z6,z7,z8,z9,z10,z11,z12,z13,z14,z15,z16,z17,z18,z19,z20,z21,z22,z23,z24,z25,z26,z27,z28,z29,z30,z31,z32,z33,z34,z35,z36,z37,z38,z39,z40,z41,z42,z43,z44,z45,z46,z47,z48,z49,z50,z51,z52,z53,z54,z55,z56,z57,z58,z59,z60,z61,z62,z63,z64,z65,z66,z67,z68,z69,z70,z71],defers:=[] } w5:=by
  intro w5 gi iv z4 z5 z6 z7 z8 z9 z10 z11 z12 z13 z14 z15 z16 z17 z18 z19 z20 z21 z22 z23 z24 z25 z26 z27 z28 z29 z30 z31 z32 z33 z34 z35 z36 z37 z38 z39 z40 z41 z42 z43 z44 z45 z46 z47 z48 z49 z50 z51 z52 z53 z54 z55 z56 z57 z58 z59 z60 z61 z62 z63 z64 z65 z66 z67 z68 z69 z70 z71 hiv hio hbi hq5;refine hK _ _ ?_;obtain ⟨hx1,htr,hb4⟩:=HX.out;have htl:tv.t.rts.length=2:=by rw[HTV.out];rfl
  have c0:=((hx1.now hq5).cell 0).trans (by unfold z0t;rw[htl];rfl:_=some (Value.slice tv.A1 2 tv.c1));have lc:=(hx1.now hq5).lt;have HX5:=hE (aIq (hx1.now hq5) (aIq (htr.now hq5) (z00 hb4 hb4.size hq5)));have HI:=hE (aIq hiv (aIq hio hbi));clear hx1 htr hb4 hq5 hiv hio hbi htl;go_wp2_with fail
  clear c0 lc;rename_i K5 hK5;have TAIL5:∀ (w6:World) (g gO:Nat) (u1:z1r) (z2 z6 z7 z8 z9 z10 z11 z12 z13 z14 z15 z16 z17 z18 z19 z20 z21 z22 z23 z24 z25 z26 z27 z28 z29 z30 z31 z32 z33 z34 z35 z36 z37 z38 z39 z40 z41 z42 z43 z44 z45 z46 z47 z48 z49 z50 z51 z52 z53 z54 z55 z56 z57 z58 z59 z60 z61 z62 z63 z64 z65 z66 z67 z68 z69 z70 z71:Value),u1.i=⟨[⟨1,0,0⟩,⟨0,0,0⟩],[]⟩→ItO w6 w5.heap.size u1→Blk w6 g 41 (z1v u1)→Below w5.heap.size w5 w6→K5 { tmps:=#[.bool false,.pointer (some ⟨g1,0,none⟩),z2,.pointer (some ⟨gi,0,none⟩),.pointer (some ⟨g,0,none⟩),.pointer (some ⟨gO,0,none⟩),z6,z7,z8,z9,z10,z11,z12,z13,z14,z15,z16,z17,z18,z19,z20,z21,z22,z23,z24,z25,z26,z27,z28,z29,z30,z31,z32,z33,z34,z35,z36,z37,z38,z39,z40,z41,z42,z43,z44,z45,z46,z47,z48,z49,z50,z51,z52,z53,z54,z55,z56,z57,z58,z59,z60,z61,z62,z63,z64,z65,z66,z67,z68,z69,z70,z71],defers:=[] } w6:=by
   intro w6 g gO u1 z2 z6 z7 z8 z9 z10 z11 z12 z13 z14 z15 z16 z17 z18 z19 z20 z21 z22 z23 z24 z25 z26 z27 z28 z29 z30 z31 z32 z33 z34 z35 z36 z37 z38 z39 z40 z41 z42 z43 z44 z45 z46 z47 z48 z49 z50 z51 z52 z53 z54 z55 z56 z57 z58 z59 z60 z61 z62 z63 z64 z65 z66 z67 z68 z69 z70 z71 hu1 hio1 hbg hq6;refine hK5 _ _ ?_;obtain ⟨hx1,htr,hb5⟩:=HX5.out;obtain ⟨hiv,hio,hbi⟩:=HI.out;have hb6:=z00 hb5 hb5.size hq6;have HCY:=hE (y03 tv u1 iv w6 (htr.now hq6) hio1.rd ((hio.now hq6).rd) (by rw[HTV.out];exact j8s) (by rw[HTV.out,hu1];exact j6h) (by rw[hiv];simp[y3y]));have ld0:=z0c (hx1.now hq6) 5 rfl;have ld1:=z0c hbg 2 rfl;have ld2:=z0c (hbi.now hq6) 7 rfl;have l0:=(hx1.now hq6).lt;have l1:=hbg.lt;have l2:=(hbi.now hq6).lt;have HX6:=hE (aIq (hx1.now hq6) (aIq (htr.now hq6) hb6));have HU1:=hE (show z1s tv.t u1.i iv.i=⟨[⟨2,0,0⟩,⟨0,0,0⟩],[]⟩ by rw[HTV.out,hu1,hiv];exact x47);clear hx1 htr hb5 hiv hio hbi hq6 hu1 hio1 hbg hb6;go_wp2_with fail
   refine HCY.out.mono ?_;rintro e w7 ⟨u2,Ac,Al,Ar,cc,nl,cl,nr,cr,rfl,hu2,hio2,hoc,hq7⟩;clear HCY ld0 ld1 ld2 l0 l1 l2;rw[HU1.out] at hu2;have hsg:z2d tv.t u2.i=[true,false]:=by rw[HTV.out,hu2];exact j2h
   rw[hsg] at hoc ⊢;rw[show ([true,false]:List Bool).length=2 from rfl] at hoc ⊢;have hl1:u2.i.rts.length=2:=by rw[hu2];rfl
   obtain ⟨W8,hW8⟩:∃ W,W=(w7.alloc (.cells (z1v u2) 41)).alloc (.cells #[.slice Ac 2 cc,.slice Al nl cl,.slice Ar nr cr] 45):=⟨_,rfl⟩
   have h8:Below w7.heap.size w7 W8:=by rw[hW8];exact (bQ.alloc nL _).alloc (by simp) _
   have hy6:Blk W8 w7.heap.size 41 (z1v u2):=by rw[hW8];exact (Blk.new _ _ _ _ rfl).alloc _
   have hy7:Blk W8 (w7.heap.size+1) 45 #[.slice Ac 2 cc,.slice Al nl cl,.slice Ar nr cr]:=by rw[hW8];exact Blk.new _ _ _ _ (by simp)
   have hit:=(hio2.now h8).rd;have hq8:=z00 hq7 hq7.size h8;obtain ⟨hx1,htr,hb6⟩:=HX6.out;have hF:=z6u (z3s.2 (z1j.1 (show z7z tv.t u2.i=true by rw[HTV.out,hu2];exact j8t)).fit);have HP:Hid (Calls Tryz.prog 20 #[.agg (z0t tv),.agg (z1v u2),.int .i64 0] W8 (y35 cI 3 W8 (z1p (z0r tv.t 0) (z1d u2.i 0)))):=hE (y0h tv u2 0 W8 (htr.now hq8) hit (by rw[HTV.out];exact j8s) hF (by rw[HTV.out];decide));rw[show z1p (z0r tv.t 0) (z1d u2.i 0)=[1] by rw[HTV.out,hu2];exact j2g] at HP;obtain ⟨bR,oR,hAR,lbR,-,y0,-,-⟩:=hit.r1.elX (i:=0) (by omega);have y0':=y0.trans (by simp[hu2]:_=some (Value.int .i64 2));rw[Nat.zero_mul,Nat.add_zero] at y0';obtain ⟨bC,oC,hAC,lbC,z0⟩:=(hoc.now h8).rdn.2.x79 (i:=0) (by simp);rw[Nat.add_zero,List.getElem_cons_zero] at z0;have c0:=(hy6.cell 0).trans (by unfold z1v;rw[hl1,hAR];rfl:_=some (Value.slice (some ⟨bR,oR,none⟩) 2 u2.c1));have d0:=(hy7.cell 0).trans (by rw[hAC];rfl:_=some (Value.slice (some ⟨bC,oC,none⟩) 2 cc));have lbR':bR < W8.heap.size:=lbR;have lbC':bC < W8.heap.size:=lbC.2;have ld0:=z0c (hx1.now hq8) 5 rfl;have ld1:=z0c hy6 2 rfl;have l0:=(hx1.now hq8).lt;have l1:=hy6.lt;have l2:=hy7.lt;have HB8:=hE (z00 hb6 hb6.size hq8);clear y0 hF hit hx1 htr hb6 hy6 hy7 hio2 hoc hu2 hsg hl1 hAR hAC lbR lbC h8 hq7 hq8;go_upto_region 7 with (fail)
   rw[←hW8];clear hW8;go_wp2_with fail
   refine HP.out.mono ?_;rintro e w9 ⟨Ap,cp,he,-,hq9⟩;rw[show ([1]:List Int).length=1 from rfl] at he;subst he;have hb9:=z00 HB8.out HB8.out.size hq9;clear HP ld0 ld1 c0 d0 y0' z0;go_wp2_with fail
   go_ret;exact ⟨rfl,hb9⟩
  obtain ⟨hx1,htr,hb5⟩:=HX5.out;obtain ⟨hiv,hio,hbi⟩:=HI.out;refine j0m tv iv g1 gi (x26 z92) hx1 hbi htr hio.rd (by rw[HTV.out];exact j8s) (by rw[HTV.out];exact j6g) (by rw[HTV.out]) (by rw[hiv];simp[y3y]) rfl rfl rfl ?_;intro a6 w6 g gO u1 Ac Al Ar cc nl cl nr cr hts hdf e0 e1 e3 e4 e5 hu1 hio1 hbg _ _ _ _ hq6;have d0:a6.eval (.tmp 0)=.bool false:=e0;have d1:a6.eval (.tmp 1)=.pointer (some ⟨g1,0,none⟩):=e1;have d3:a6.eval (.tmp 3)=.pointer (some ⟨gi,0,none⟩):=e3;rw[z06] at d0 d1 d3 e4 e5;have htm:=y89 a6.tmps 72 hts;simp only[tmL] at htm;rw[d0,d1,d3,e4,e5] at htm;have ha:=y87 htm hdf;rw[ha];exact TAIL5 w6 g gO u1 _ _ _ _ _ _ _ _ _ _ _ _ _ _ _ _ _ _ _ _ _ _ _ _ _ _ _ _ _ _ _ _ _ _ _ _ _ _ _ _ _ _ _ _ _ _ _ _ _ _ _ _ _ _ _ _ _ _ _ _ _ _ _ _ _ _ _ (hu1.trans (by rw[HTV.out,hiv];exact x46)) hio1 hbg hq6
 refine j0l rfl ?_;intro a5 w5 gi iv hts hdf e0 e1 e2 e3 hiv hio hbi hq5;have d0:a5.eval (.tmp 0)=.bool false:=e0;have d1:a5.eval (.tmp 1)=.pointer (some ⟨g1,0,none⟩):=e1;have d2:a5.eval (.tmp 2)=.int .i64 0:=e2;rw[z06] at d0 d1 d2 e3;have htm:=y89 a5.tmps 72 hts;simp only[tmL] at htm;rw[d0,d1,d2,e3] at htm;have ha:=y87 htm hdf;rw[ha];exact TAIL2 w5 gi iv _ _ _ _ _ _ _ _ _ _ _ _ _ _ _ _ _ _ _ _ _ _ _ _ _ _ _ _ _ _ _ _ _ _ _ _ _ _ _ _ _ _ _ _ _ _ _ _ _ _ _ _ _ _ _ _ _ _ _ _ _ _ _ _ _ _ _ _ hiv hio hbi hq5
end Go.Proofs.YtpenlfedkacglaaGreatDoor
namespace Go.Proofs.YtpenlfedkacglaaGreatDoor
structure j8d (a b:Rou) (n:Nat):Prop where
 e1:a.path=b.path
 e2:a.pts=b.pts
 e3:a.secs=b.secs
 e4:a.over=b.over
 e5:a.opts=b.opts
 e6:a.osecs=b.osecs
 n7:a.flk.length≤b.flk.length+n
theorem x7i (l:Lay) (r:Rou) (e:z0o):j8d (z90 l r e) r 1:=by
 unfold z90;split
 ·exact ⟨rfl,rfl,rfl,rfl,rfl,rfl,Nat.le_succ _⟩
 ·split
  ·exact ⟨rfl,rfl,rfl,rfl,rfl,rfl,Nat.le_succ _⟩
  ·split
   ·exact ⟨rfl,rfl,rfl,rfl,rfl,rfl,Nat.le_succ _⟩
   ·exact ⟨rfl,rfl,rfl,rfl,rfl,rfl,by simp⟩
theorem y8l (l:Lay):∀ (es:List z0o) (r:Rou),j8d (es.foldl (z90 l) r) r es.length
 | [],r=>⟨rfl,rfl,rfl,rfl,rfl,rfl,nL⟩
 | e::es,r=>by
  have h1:=x7i l r e;have h2:=y8l l es (z90 l r e);exact ⟨h2.e1.trans h1.e1,h2.e2.trans h1.e2,h2.e3.trans h1.e3,h2.e4.trans h1.e4,h2.e5.trans h1.e5,h2.e6.trans h1.e6,by have a:=h1.n7;have b:=h2.n7;simp only[List.foldl_cons,lCn];omega⟩
theorem y8j (l:Lay):∀ st:List Stp,(st.flatMap (y1x l)).length≤4*st.length
 | []=>by simp
 | s::st=>by
  rw[List.flatMap_cons,qL,lCn];have h1:=y6r l s;have h2:=y8j l st;omega
theorem j4c {l:Lay} (hk:z9a l):y4p (z5i l):=fun r hr=>by
 obtain ⟨r0,h0,rfl⟩:=List.mem_map.1 hr;have hs:=j03 hk h0;have ho:=(z9g (l:=l) r0).2;have h1:=y0s l (z4x l r0);have h2:=y0p l (z4x l r0);have hov:(z1z l r0).over=z4x l r0:=rfl;rw[hov] at ho;have hf:j8d (y2f l (z1z l r0)) { z1z l r0 with flk:=[],grd:=[],gap:=[] } _:=y8l l _ _;have he:=y8j l ((z1z l r0).path++(z1z l r0).over);have hp:((z1z l r0).path++(z1z l r0).over).length≤24:=by rw[qL,hov];have:=hs.n1;show r0.path.length+_≤24;omega
 have h7:(z0v (z4l ltG (y2f l (z1z l r0)).flk)).length≤(y2f l (z1z l r0)).flk.length:=nR (z4t _) (by rw[(z1k _).length_eq];exact nL);have h7b:(y2f l (z1z l r0)).flk.length≤0+_:=hf.n7;refine ⟨?_,?_,?_,?_,?_,?_,?_⟩
 ·show (y2f l (z1z l r0)).path.length≤30000;rw[hf.e1];exact hs.s.n1
 ·show (y2f l (z1z l r0)).pts.length≤30000;rw[hf.e2];exact hs.s.n2
 ·show (y2f l (z1z l r0)).secs.length≤30000;rw[hf.e3];exact hs.s.n3
 ·show (y2f l (z1z l r0)).over.length≤30000;rw[hf.e4];show (z4x l r0).length≤30000;omega
 ·show (y2f l (z1z l r0)).opts.length≤30000;rw[hf.e5];show (z1a l (z4x l r0)).length≤30000;omega
 ·show (y2f l (z1z l r0)).osecs.length≤30000;rw[hf.e6];show (z0y l (z4x l r0)).length≤30000;omega
 ·show (z0v (z4l ltG (y2f l (z1z l r0)).flk)).length≤30000;omega
end Go.Proofs.YtpenlfedkacglaaGreatDoor
namespace Go.Proofs.YtpenlfedkacglaaGreatDoor
open Go.RowKit
def j8e (w:World) (e:Ending) (w':World):Prop:=e=.returned (.bool true)∧Below w.heap.size w w'
theorem j5d {l:Lay} (h:(x0b l).2=0):x0b l=(z5i l,0)∧z4y (z5i l)=0∧y4p (z5i l):=by
 unfold x0b at h ⊢;split at h
 ·rename_i hc;split at h
  ·rename_i hl;rw[if_pos hc,if_pos hl];exact ⟨rfl,(j7m hc hl).1,j4c (j7x hc)⟩
  ·simp at h
 ·rename_i hc;exact absurd h hc
theorem x45 {l:Lay} {ins:List Inp} (h:z6p l ins=true):ins.length≤16∧∀ x∈ins,x.calls.length≤80000:=by
 unfold z6p at h;rw[uT] at h;refine ⟨(y7i.1 h.1).2.2.2.2.2,fun x hx=>?_⟩;have:=(y7l.1 (List.all_eq_true.1 h.2 x hx)).2.2.2.2.2.1;omega
theorem ItO.j8w {w:World} {base g:Nat} {u:z1r} {x y a b:Value} (h:ItO w base u) (hg:Blk w g 41 #[x,y]):ItO ((w.setCell ⟨g,0,none⟩ a).setCell ⟨g,1,none⟩ b) base u:=h.put hg (by decide) (by decide)
theorem k01 {w:World} {g k:Nat} {T:TypeId} {cs:Array Value} (h:Blk w k T cs) (hk:k≠g) (a b:Value):Blk ((w.setCell ⟨g,0,none⟩ a).setCell ⟨g,1,none⟩ b) k T cs:=(h.far (p:=⟨g,0,none⟩) hk _).far (p:=⟨g,1,none⟩) hk _
theorem bel2 {w wr:World} {B g:Nat} (h:Below B w wr) (hg:B≤g) (a b:Value):Below B w ((wr.setCell ⟨g,0,none⟩ a).setCell ⟨g,1,none⟩ b):=(h.setCell (p:=⟨g,0,none⟩) hg _).setCell (p:=⟨g,1,none⟩) hg _
end Go.Proofs.YtpenlfedkacglaaGreatDoor
namespace Go.Proofs.YtpenlfedkacglaaGreatDoor
open Go.RowKit
attribute [local go_sem] z05 z07 z01 z02
attribute [-go_sem] run_equalIn_agg
attribute [-go_sem] loadCellsFrom
theorem x6c {a a0:Act} {m:Nat} (D:List Nat) (hts:a.tmps.size=m) (h0:a0.tmps.size=m) (hdf:a.defers=a0.defers) (hk:∀ s,s∉D→a.eval (.tmp s)=a0.eval (.tmp s)):a=⟨D.foldl (fun t d=>t.setIfInBounds d (a.eval (.tmp d))) a0.tmps,a0.defers⟩:=by
 have hsz:∀ (D:List Nat) (t:Array Value),(D.foldl (fun t d=>t.setIfInBounds d (a.eval (.tmp d))) t).size=t.size:=by
  intro D
  induction D with
  | nil=>intro t;rfl
  | cons d r ih=>intro t;rw[List.foldl_cons,ih];simp
 have hget:∀ (D:List Nat) (t:Array Value) (s:Nat),s < t.size→(D.foldl (fun t d=>t.setIfInBounds d (a.eval (.tmp d))) t)[s]? = if s∈D then some (a.eval (.tmp s)) else t[s]?:=by
  intro D
  induction D with
  | nil=>intro t s hs;simp
  | cons d r ih=>
   intro t s hs;rw[List.foldl_cons,ih _ _ (by simpa using hs)];by_cases hsr:s∈r
   ·rw[if_pos hsr,if_pos (mCm _ hsr)]
   ·rw[if_neg hsr,Array.getElem?_setIfInBounds];by_cases hds:d=s
    ·subst hds;simp[hs]
    ·rw[if_neg hds,if_neg (by simp[hsr];exact fun e=>hds e.symm)]
 obtain ⟨tm,df⟩:=a;dsimp only at hts hdf;subst hdf;congr 1;apply Array.ext_getElem?;intro s;by_cases hs:s < tm.size
 ·rw[hget D a0.tmps s (by omega)];by_cases hd:s∈D
  ·rw[if_pos hd];simp[Act.eval,hs]
  ·rw[if_neg hd];have:=hk s hd;rw[z06,z06] at this;dsimp only at this;have h2:s < a0.tmps.size:=by omega
   rw[agE hs,agE h2] at this ⊢;simpa using this
 ·rw[Array.getElem?_eq_none (by omega),Array.getElem?_eq_none (by rw[hsz];omega)]
theorem j7g {t:Tab} {s:Itr} {k e:Nat} (hk:k < t.rts.length) (hks:k < s.rts.length) (hst:s.rts[k].st=2) (he:t.rts[k].ent=(e:Int)) (hlt:e < t.nsig.toNat):(z2d t s)[e]? = some true:=by
 unfold z2d;rw[List.getElem?_map,List.getElem?_range hlt,Option.map_some];congr 1;rw[List.any_eq_true];refine ⟨(t.rts[k],s.rts[k]),?_,by simp[hst,he]⟩;exact List.mem_iff_getElem.2 ⟨k,by rw[List.length_zip];omega,by rw[List.getElem_zip]⟩
structure x1u (tv:z1w) (w w4:World) (g1 gs:Nat) (wr:World) (um:z1r):Prop where
 b1:Blk wr g1 33 (z0t tv)
 bs:Blk wr gs 41 (z1v um)
 tr4:TvR w4 tv
 b4:Below w4.heap.size w4 wr
 it:ItO wr 0 um
 gsl:w.heap.size≤gs
 gs4:w4.heap.size≤gs
 ne1:g1≠gs
 bel:Below w.heap.size w wr
section
variable {tv:z1w} {w w4 wr w':World} {g1 gs:Nat} {um u':z1r}
theorem x1u.tr (h:x1u tv w w4 g1 gs wr um):TvR wr tv:=h.tr4.now h.b4
theorem x1u.now (h:x1u tv w w4 g1 gs wr um) (hb:Below wr.heap.size wr w'):x1u tv w w4 g1 gs w' um:=⟨h.b1.now hb,h.bs.now hb,h.tr4,z00 h.b4 h.b4.size hb,h.it.now hb,h.gsl,h.gs4,h.ne1,z00 h.bel h.bel.size hb⟩
theorem x1u.put (h:x1u tv w w4 g1 gs wr um) (hi:ItO wr 0 u'):x1u tv w w4 g1 gs ((wr.setCell ⟨gs,0,none⟩ (.slice u'.A1 u'.i.rts.length u'.c1)).setCell ⟨gs,1,none⟩ (.slice u'.A2 u'.i.lies.length u'.c2)) u':=
 ⟨k01 h.b1 h.ne1 _ _,x6i h.bs _ _,h.tr4,bel2 h.b4 h.gs4 _ _,hi.j8w h.bs,h.gsl,h.gs4,h.ne1,bel2 h.bel h.gsl _ _⟩
end
def x4t:Array Oper:=#[.mk (some 38) (.load 33 (.tmp 5)) 33 "top23.go:80" #[] none,.mk (some 39) (.load 41 (.tmp 7)) 41 "top23.go:80" #[] none,.mk (some 40) (.move (.tmp 1)) 29 "top23.go:80" #[] none,.mk (some 41) (.move (.tmp 8)) 3 "top23.go:80" #[] none,.mk (some 42) (.indexAddr 29 (.tmp 40) (.tmp 41)) 0 "top23.go:80" #[.mk 2 .data,.mk 3 .data] none,.mk (some 43) (.load 49 (.tmp 42)) 49 "top23.go:80" #[.mk 4 .data] none,.mk (some 44) (.call (.mk (.value (.func 9)) #[.tmp 38,.tmp 39,.tmp 43] #[33,41,49])) 46 "top23.go:80" #[.mk 0 .data,.mk 1 .data,.mk 5 .data] none,.mk (some 37) (.move (.tmp 44)) 46 "top23.go:80" #[.mk 6 .data] none,.mk (some 45) (.extract (.tmp 37) 0) 41 "top23.go:80" #[.mk 7 .data] none,.mk (some 46) (.extract (.tmp 37) 1) 45 "top23.go:80" #[.mk 7 .data,.mk 12 (.gcOnly Go.Departure.lateStores)] none,.mk (some 9) (.alloc 41) 0 "top23.go:80" #[] none,.mk (some 10) (.alloc 45) 0 "top23.go:80" #[] none,.mk none (.store 41 (.tmp 9) (.tmp 45)) 0 "top23.go:80" #[.mk 10 .data,.mk 8 .data,.mk 6 .chain,.mk 0 .phase,.mk 1 .phase,.mk 2 .phase,.mk 3 .phase,.mk 4 .phase,.mk 5 .phase,.mk 6 .phase,.mk 7 .phase,.mk 8 .phase,.mk 9 (.textOnly Go.Departure.lateStores),.mk 10 .phase,.mk 11 .phase] none,.mk none (.store 45 (.tmp 10) (.tmp 46)) 0 "top23.go:80" #[.mk 11 .data,.mk 9 .data,.mk 12 .chain,.mk 0 .phase,.mk 1 .phase,.mk 2 .phase,.mk 3 .phase,.mk 4 .phase,.mk 5 .phase,.mk 6 .phase,.mk 7 .phase,.mk 8 .phase,.mk 9 .phase,.mk 10 .phase,.mk 11 .phase,.mk 12 .phase] none]
def x9o (j:Nat):Nat:=([38,39,40,41,42,43,44,37,45,46,9,10,9]:List Nat).getD j 0
def y9z (v:z1w) (u:z1r) (B gs:Nat) (ins:List Inp) (Ai:Option Addr) (ci k:Nat) (iv:z3n) (bi oi:Nat) (W:World) (j:Nat) (y:Value) (w:World):Prop:=match j with
 | 0=>y=.agg (z0t v)
 | 1=>y=.agg (z1v u)
 | 2=>y=.slice Ai ins.length ci
 | 3=>y=.int .i64 (k:Int)
 | 4=>y=.pointer (some ⟨bi,oi+k*7,none⟩)
 | 5=>y=.agg (z3t iv)
 | 6=>∃ (u':z1r) (Ac Al Ar:Option Addr) (cc nl cl nr cr:Nat),y=.tuple #[.agg #[.slice u'.A1 u'.i.rts.length u'.c1,.slice u'.A2 u'.i.lies.length u'.c2],.agg #[.slice Ac (z2d v.t (z1s v.t u.i iv.i)).length cc,.slice Al nl cl,.slice Ar nr cr]]∧u'.i=z1s v.t u.i iv.i∧ItO w W.heap.size u'∧z09 cB w W.heap.size 4 (.slice Ac (z2d v.t (z1s v.t u.i iv.i)).length cc) (z2d v.t (z1s v.t u.i iv.i)) 0
 | 7=>∃ (u':z1r) (Ac Al Ar:Option Addr) (cc nl cl nr cr:Nat),y=.tuple #[.agg #[.slice u'.A1 u'.i.rts.length u'.c1,.slice u'.A2 u'.i.lies.length u'.c2],.agg #[.slice Ac (z2d v.t (z1s v.t u.i iv.i)).length cc,.slice Al nl cl,.slice Ar nr cr]]∧u'.i=z1s v.t u.i iv.i∧ItO w W.heap.size u'∧z09 cB w W.heap.size 4 (.slice Ac (z2d v.t (z1s v.t u.i iv.i)).length cc) (z2d v.t (z1s v.t u.i iv.i)) 0
 | 8=>∃ u':z1r,y=.agg #[.slice u'.A1 u'.i.rts.length u'.c1,.slice u'.A2 u'.i.lies.length u'.c2]∧u'.i=z1s v.t u.i iv.i∧ItO w W.heap.size u'
 | 9=>∃ (Ac Al Ar:Option Addr) (cc nl cl nr cr:Nat),y=.agg #[.slice Ac (z2d v.t (z1s v.t u.i iv.i)).length cc,.slice Al nl cl,.slice Ar nr cr]∧z09 cB w W.heap.size 4 (.slice Ac (z2d v.t (z1s v.t u.i iv.i)).length cc) (z2d v.t (z1s v.t u.i iv.i)) 0
 | 10=>∃ (g:Nat) (a b:Value),y=.pointer (some ⟨g,0,none⟩)∧W.heap.size≤g∧Blk w g 41 #[a,b]
 | 11=>∃ g:Nat,y=.pointer (some ⟨g,0,none⟩)∧W.heap.size≤g∧Blk w g 45 #[.slice none 0 0,.slice none 0 0,.slice none 0 0]
 | 12=>∃ (g:Nat) (u':z1r),y=.pointer (some ⟨g,0,none⟩)∧W.heap.size≤g∧Blk w g 41 #[.slice u'.A1 u'.i.rts.length u'.c1,.slice u'.A2 u'.i.lies.length u'.c2]∧u'.i=z1s v.t u.i iv.i∧ItO w W.heap.size u'
 | _=>True
theorem z96 {v:z1w} {u:z1r} {B gs:Nat} {ins:List Inp} {Ai:Option Addr} {ci k:Nat} {iv:z3n} {bi oi:Nat} {W:World}:∀ (j:Nat) (y:Value) (w w':World),y9z v u B gs ins Ai ci k iv bi oi W j y w→Below w.heap.size w w'→y9z v u B gs ins Ai ci k iv bi oi W j y w'
 | 0,y,w,w',h,hb=>h
 | 1,y,w,w',h,hb=>h
 | 2,y,w,w',h,hb=>h
 | 3,y,w,w',h,hb=>h
 | 4,y,w,w',h,hb=>h
 | 5,y,w,w',h,hb=>h
 | 6,y,w,w',h,hb=>(let ⟨u',Ac,Al,Ar,cc,nl,cl,nr,cr,h1,h2,h3,h4⟩:=h;⟨u',Ac,Al,Ar,cc,nl,cl,nr,cr,h1,h2,h3.now hb,h4.now hb⟩)
 | 7,y,w,w',h,hb=>(let ⟨u',Ac,Al,Ar,cc,nl,cl,nr,cr,h1,h2,h3,h4⟩:=h;⟨u',Ac,Al,Ar,cc,nl,cl,nr,cr,h1,h2,h3.now hb,h4.now hb⟩)
 | 8,y,w,w',h,hb=>(let ⟨u',h1,h2,h3⟩:=h;⟨u',h1,h2,h3.now hb⟩)
 | 9,y,w,w',h,hb=>(let ⟨Ac,Al,Ar,cc,nl,cl,nr,cr,h1,h2⟩:=h;⟨Ac,Al,Ar,cc,nl,cl,nr,cr,h1,h2.now hb⟩)
 | 10,y,w,w',h,hb=>(let ⟨g,a,b,h1,h2,h3⟩:=h;⟨g,a,b,h1,h2,h3.now hb⟩)
 | 11,y,w,w',h,hb=>(let ⟨g,h1,h2,h3⟩:=h;⟨g,h1,h2,h3.now hb⟩)
 | 12,y,w,w',h,hb=>(let ⟨g,u',h1,h2,h3,h4,h5⟩:=h;⟨g,u',h1,h2,h3.now hb,h4,h5.now hb⟩)
 | _+13,_,_,_,_,_=>trivial
theorem j7k {v:z1w} {u:z1r} {B gs:Nat} {ins:List Inp} {Ai:Option Addr} {ci k:Nat} {iv:z3n} {bi oi:Nat} {W:World}:∀ (j:Nat) (y:Value) (w:World) (g:Nat) (b0 b1 x1 x2:Value),j≠12→Blk w g 41 #[b0,b1]→y9z v u B gs ins Ai ci k iv bi oi W j y w→y9z v u B gs ins Ai ci k iv bi oi W j y (w.setRow g #[x1,x2])
 | 0,y,w,g,b0,b1,x1,x2,hj,hbk,h=>h
 | 1,y,w,g,b0,b1,x1,x2,hj,hbk,h=>h
 | 2,y,w,g,b0,b1,x1,x2,hj,hbk,h=>h
 | 3,y,w,g,b0,b1,x1,x2,hj,hbk,h=>h
 | 4,y,w,g,b0,b1,x1,x2,hj,hbk,h=>h
 | 5,y,w,g,b0,b1,x1,x2,hj,hbk,h=>h
 | 6,y,w,g,b0,b1,x1,x2,hj,hbk,h=>(let ⟨u',Ac,Al,Ar,cc,nl,cl,nr,cr,h1,h2,h3,h4⟩:=h;⟨u',Ac,Al,Ar,cc,nl,cl,nr,cr,h1,h2,h3.frm (z0q #[x1,x2] hbk).2 (by decide) (by decide),h4.frm (z0q #[x1,x2] hbk).2 (by decide) nZ⟩)
 | 7,y,w,g,b0,b1,x1,x2,hj,hbk,h=>(let ⟨u',Ac,Al,Ar,cc,nl,cl,nr,cr,h1,h2,h3,h4⟩:=h;⟨u',Ac,Al,Ar,cc,nl,cl,nr,cr,h1,h2,h3.frm (z0q #[x1,x2] hbk).2 (by decide) (by decide),h4.frm (z0q #[x1,x2] hbk).2 (by decide) nZ⟩)
 | 8,y,w,g,b0,b1,x1,x2,hj,hbk,h=>(let ⟨u',h1,h2,h3⟩:=h;⟨u',h1,h2,h3.frm (z0q #[x1,x2] hbk).2 (by decide) (by decide)⟩)
 | 9,y,w,g,b0,b1,x1,x2,hj,hbk,h=>(let ⟨Ac,Al,Ar,cc,nl,cl,nr,cr,h1,h2⟩:=h;⟨Ac,Al,Ar,cc,nl,cl,nr,cr,h1,h2.frm (z0q #[x1,x2] hbk).2 (by decide) nZ⟩)
 | 10,y,w,g,b0,b1,x1,x2,hj,hbk,h=>(let ⟨g',a,b,h1,h2,h3⟩:=h;if he:g' = g then ⟨g',x1,x2,h1,h2,he▸(z0q #[x1,x2] hbk).1⟩ else ⟨g',a,b,h1,h2,(setRow_other w g g' #[x1,x2] he).trans h3⟩)
 | 11,y,w,g,b0,b1,x1,x2,hj,hbk,h=>(let ⟨g',h1,h2,h3⟩:=h;⟨g',h1,h2,(z0q #[x1,x2] hbk).2.blk h3 (by decide)⟩)
 | 12,y,w,g,b0,b1,x1,x2,hj,hbk,h=>absurd rfl hj
 | _+13,_,_,_,_,_,_,_,_,_,_=>trivial
theorem j6y {Q:Exit→Act→World→Prop} {id:Nat} {a0:Act} {W:World} (v:z1w) (u:z1r) (B gs:Nat) (ins:List Inp) (Ai:Option Addr) (ci k:Nat) (iv:z3n) (bi oi:Nat) (x0:Blk W B 33 (z0t v)) (x1:Blk W gs 41 (z1v u)) (hr:TvR W v) (hu:y1j W u) (hi:y1d W iv) (hS:y4p v.t) (hsd:z7z v.t u.i=true) (hca:iv.i.calls.length≤80000) (hA:Ai=some ⟨bi,oi,none⟩) (lb:bi < W.heap.size) (hqi:∀ (j:Nat) (y:Value),[.slice iv.A1 iv.i.occ.length iv.c1,.slice iv.A2 iv.i.det.length iv.c2,.slice iv.A3 iv.i.clo.length iv.c3,.slice iv.A4 iv.i.cla.length iv.c4,.slice iv.A5 iv.i.pas.length iv.c5,.slice iv.A6 iv.i.calls.length iv.c6,.slice iv.A7 iv.i.cans.length iv.c7][j]? = some y→W.cell? ⟨bi,oi+k*7+j,none⟩=some y) (hkk:(k:Int) < (ins.length:Int)) (h0:a0.tmps.size=171) (T1:a0.eval (.tmp 1)=.slice Ai ins.length ci) (T5:a0.eval (.tmp 5)=.pointer (some ⟨B,0,none⟩)) (T7:a0.eval (.tmp 7)=.pointer (some ⟨gs,0,none⟩)) (T8:a0.eval (.tmp 8)=.int .i64 (k:Int))
  (hend:∀ a w,a.tmps.size=171→a.defers=a0.defers→(∀ s,s∉(List.range 13).map (x9o)→a.eval (.tmp s)=a0.eval (.tmp s))→Below W.heap.size W w→(∀ j,j < 13→y9z v u B gs ins Ai ci k iv bi oi W j (a.eval (.tmp (x9o j))) w)→wpAny Tryz.prog .any x4t Q 1 #[true,true,true,true,true,true,true,true,true,true,true,true,true,false] a w):(Code.region id x4t true).wp Tryz.prog Q a0 W:=by
 refine z6b 13 1 171 x9o #[true,true,true,true,true,true,true,true,true,true,true,true,true,false] (by kernel_rfl) (by kernel_rfl) h0 (by kernel_rfl) (by kernel_rfl) (y9z v u B gs ins Ai ci k iv bi oi W) ?_ hend;intro jx hjx a w hts hdf hk hb hd;clear hend hdf h0;have hc:jx=0∨jx=1∨jx=2∨jx=3∨jx=4∨jx=5∨jx=6∨jx=7∨jx=8∨jx=9∨jx=10∨jx=11∨jx=12:=by omega
 rcases hc with rfl | rfl | rfl | rfl | rfl | rfl | rfl | rfl | rfl | rfl | rfl | rfl | rfl
 ·refine y1i rfl rfl (by rw[hts];decide) hb z96 fun K hK=>?_
  have t5:=(hk 5 (by decide +kernel)).trans T5;rw[z06] at t5;clear hk hd hts T1 T5 T7 T8;have ld:=z0c (x0.now hb) 5 rfl;clear x0 x1 hr hu hi hS hsd hca hA lb hqi hkk;go_simp
  exact hK.out _ _ bQ rfl
 ·refine y1i rfl rfl (by rw[hts];decide) hb z96 fun K hK=>?_
  have t7:=(hk 7 (by decide +kernel)).trans T7;rw[z06] at t7;clear hk hd hts T1 T5 T7 T8;have ld:=z0c (x1.now hb) 2 rfl;clear x0 x1 hr hu hi hS hsd hca hA lb hqi hkk;go_simp
  exact hK.out _ _ bQ rfl
 ·refine y1i rfl rfl (by rw[hts];decide) hb z96 fun K hK=>?_
  have t1:=(hk 1 (by decide +kernel)).trans T1;rw[z06] at t1;clear hk hd hts T1 T5 T7 T8;clear x0 x1 hr hu hi hS hsd hca hA lb hqi hkk;go_simp
  exact hK.out _ _ bQ rfl
 ·refine y1i rfl rfl (by rw[hts];decide) hb z96 fun K hK=>?_
  have t8:=(hk 8 (by decide +kernel)).trans T8;rw[z06] at t8;clear hk hd hts T1 T5 T7 T8;clear x0 x1 hr hu hi hS hsd hca hA lb hqi hkk;go_simp
  exact hK.out _ _ bQ rfl
 ·refine y1i rfl rfl (by rw[hts];decide) hb z96 fun K hK=>?_
  have e2:_=_:=z4g (s:=40) hd rfl 0 rfl rfl rfl rfl;rw[z06] at e2;have e3:_=_:=z4g (s:=41) hd rfl 1 rfl rfl rfl rfl;rw[z06] at e3;clear hk hd hts T1 T5 T7 T8;have hh:=hkk;rw[hA] at e2;clear x0 x1 hr hu hi hS hsd hca hA lb hqi hkk;go_simp
  exact hK.out _ _ bQ rfl
 ·refine y1i rfl rfl (by rw[hts];decide) hb z96 fun K hK=>?_
  have e4:_=_:=z4g (s:=42) hd rfl 0 rfl rfl rfl rfl;rw[z06] at e4;clear hk hd hts T1 T5 T7 T8;have ld:=z2y (n:=7) rfl (fun j y hy=>(hb.cell (p:=⟨bi,oi+k*7+j,none⟩) lb).trans (hqi j y hy));clear x0 x1 hr hu hi hS hsd hca hA lb hqi hkk;go_simp
  exact hK.out _ _ bQ rfl
 ·refine y1i rfl rfl (by rw[hts];decide) hb z96 fun K hK=>?_
  have e0:_=_:=z4g (s:=38) hd rfl 0 rfl rfl rfl rfl;rw[z06] at e0;have e1:_=_:=z4g (s:=39) hd rfl 1 rfl rfl rfl rfl;rw[z06] at e1;have e5:_=_:=z4g (s:=43) hd rfl 2 rfl rfl rfl rfl;rw[z06] at e5;clear hk hd hts T1 T5 T7 T8;have HC:=hE (y03 v u iv w (hr.now hb) (hu.now hb) (hi.now hb) hS hsd hca);have hz:=hb.size;clear x0 x1 hr hu hi hS hsd hca hA lb hqi hkk;go_simp
  refine HC.out.mono ?_;rintro e w2 ⟨u',Ac,Al,Ar,cc,nl,cl,nr,cr,rfl,hu,ho,hoc,hq⟩;have hsg:z2d v.t u'.i=z2d v.t (z1s v.t u.i iv.i):=by rw[hu]
  rw[hsg] at hoc ⊢;exact hK.out _ _ hq ⟨u',Ac,Al,Ar,cc,nl,cl,nr,cr,rfl,hu,ho.lower hz,hoc.lower hz⟩
 ·refine y1i rfl rfl (by rw[hts];decide) hb z96 fun K hK=>?_
  obtain ⟨u',Ac,Al,Ar,cc,nl,cl,nr,cr,e6,hc1,hc2,hc3⟩:=z4g (s:=44) hd rfl 0 rfl rfl rfl rfl;rw[z06] at e6;clear hk hd hts T1 T5 T7 T8;have HC:=hE (aIq hc1 (aIq hc2 hc3));clear hc1 hc2 hc3 x0 x1 hr hu hi hS hsd hca hA lb hqi hkk;go_simp
  exact hK.out _ _ bQ ⟨u',Ac,Al,Ar,cc,nl,cl,nr,cr,rfl,HC.out⟩
 ·refine y1i rfl rfl (by rw[hts];decide) hb z96 fun K hK=>?_
  obtain ⟨u',Ac,Al,Ar,cc,nl,cl,nr,cr,e7,hc1,hc2,hc3⟩:=z4g (s:=37) hd rfl 0 rfl rfl rfl rfl;rw[z06] at e7;clear hk hd hts T1 T5 T7 T8;have HC:=hE (aIq hc1 hc2);clear hc1 hc2 hc3 x0 x1 hr hu hi hS hsd hca hA lb hqi hkk;go_simp
  exact hK.out _ _ bQ ⟨u',rfl,HC.out⟩
 ·refine y1i rfl rfl (by rw[hts];decide) hb z96 fun K hK=>?_
  obtain ⟨u',Ac,Al,Ar,cc,nl,cl,nr,cr,e7,hc1,hc2,hc3⟩:=z4g (s:=37) hd rfl 0 rfl rfl rfl rfl;rw[z06] at e7;clear hk hd hts T1 T5 T7 T8;have HC:=hE hc3;clear hc1 hc2 hc3 x0 x1 hr hu hi hS hsd hca hA lb hqi hkk;go_simp
  exact hK.out _ _ bQ ⟨Ac,Al,Ar,cc,nl,cl,nr,cr,rfl,HC.out⟩
 ·refine y1i rfl rfl (by rw[hts];decide) hb z96 fun K hK=>?_
  clear hk hd hts T1 T5 T7 T8;have hz:=hb.size;clear x0 x1 hr hu hi hS hsd hca hA lb hqi hkk;go_simp
  exact hK.out _ _ (bQ.alloc nL _) ⟨_,_,_,rfl,hz,Blk.new _ _ _ _ rfl⟩
 ·refine y1i rfl rfl (by rw[hts];decide) hb z96 fun K hK=>?_
  clear hk hd hts T1 T5 T7 T8;have hz:=hb.size;clear x0 x1 hr hu hi hS hsd hca hA lb hqi hkk;go_simp
  exact hK.out _ _ (bQ.alloc nL _) ⟨_,rfl,hz,Blk.new _ _ _ _ rfl⟩
 ·refine j9u rfl fun K hK=>?_
  have p10:=z4g (s:=9) hd rfl 0 rfl rfl rfl rfl;have p8:=z4g (s:=45) hd rfl 1 rfl rfl rfl rfl;have p6:=z4g (s:=44) hd rfl 2 rfl rfl rfl rfl;obtain ⟨u',h6,hu1,hu2⟩:=(p8:∃ u':z1r,(a.eval (.tmp 45))=.agg #[.slice u'.A1 u'.i.rts.length u'.c1,.slice u'.A2 u'.i.lies.length u'.c2]∧u'.i=z1s v.t u.i iv.i∧ItO w W.heap.size u')
  obtain ⟨g,b0,b1,h8,hg,hbk⟩:=(p10:∃ (g:Nat) (a_1 b:Value),a.eval (.tmp 9)=.pointer (some ⟨g,0,none⟩)∧W.heap.size≤g∧Blk w g 41 #[a_1,b])
  have q1:=z0q #[.slice u'.A1 u'.i.rts.length u'.c1,.slice u'.A2 u'.i.lies.length u'.c2] hbk;have hb7:=hb.trans ((z3v #[.slice u'.A1 u'.i.rts.length u'.c1,.slice u'.A2 u'.i.lies.length u'.c2] hbk).2.mono hg);exact z1b rfl _ _ _ rfl g #[.slice u'.A1 u'.i.rts.length u'.c1,.slice u'.A2 u'.i.lies.length u'.c2] h8 h6 41 #[b0,b1] hbk (by kernel_rfl) rfl (by simp[Value.oneCell']) (hK.out _ hb7 (fun j y hj hp=>j7k j y w g b0 b1 _ _ hj hbk hp) ⟨g,u',h8,hg,q1.1,hu1,hu2.frm q1.2 (by decide) (by decide)⟩)
theorem j4e {Q:Exit→Act→World→Prop} {id:Nat} {a0:Act} {W:World} (v:z1w) (u:z1r) (B gs:Nat) (ins:List Inp) (Ai:Option Addr) (ci k:Nat) (iv:z3n) (bi oi:Nat) (x0:Blk W B 33 (z0t v)) (x1:Blk W gs 41 (z1v u)) (hr:TvR W v) (hu:y1j W u) (hi:y1d W iv) (hS:y4p v.t) (hsd:z7z v.t u.i=true) (hca:iv.i.calls.length≤80000) (hA:Ai=some ⟨bi,oi,none⟩) (lb:bi < W.heap.size) (hqi:∀ (j:Nat) (y:Value),[.slice iv.A1 iv.i.occ.length iv.c1,.slice iv.A2 iv.i.det.length iv.c2,.slice iv.A3 iv.i.clo.length iv.c3,.slice iv.A4 iv.i.cla.length iv.c4,.slice iv.A5 iv.i.pas.length iv.c5,.slice iv.A6 iv.i.calls.length iv.c6,.slice iv.A7 iv.i.cans.length iv.c7][j]? = some y→W.cell? ⟨bi,oi+k*7+j,none⟩=some y) (hkk:(k:Int) < (ins.length:Int)) (h0:a0.tmps.size=171) (t1:a0.eval (.tmp 1)=.slice Ai ins.length ci) (t5:a0.eval (.tmp 5)=.pointer (some ⟨B,0,none⟩)) (t7:a0.eval (.tmp 7)=.pointer (some ⟨gs,0,none⟩)) (t8:a0.eval (.tmp 8)=.int .i64 (k:Int))
  (hend:∀ a (w:World) (g gO:Nat) (u':z1r) (Ac Al Ar:Option Addr) (cc nl cl nr cr:Nat),a.tmps.size=171→a.defers=a0.defers→(∀ s,s∉([38,39,40,41,42,43,44,37,45,46,9,10,9]:List Nat)→a.eval (.tmp s)=a0.eval (.tmp s))→a.eval (.tmp 9)=.pointer (some ⟨g,0,none⟩)→a.eval (.tmp 10)=.pointer (some ⟨gO,0,none⟩)→u'.i=z1s v.t u.i iv.i→ItO w W.heap.size u'→Blk w g 41 #[.slice u'.A1 u'.i.rts.length u'.c1,.slice u'.A2 u'.i.lies.length u'.c2]→Blk w gO 45 #[.slice Ac (z2d v.t (z1s v.t u.i iv.i)).length cc,.slice Al nl cl,.slice Ar nr cr]→z09 cB w W.heap.size 4 (.slice Ac (z2d v.t (z1s v.t u.i iv.i)).length cc) (z2d v.t (z1s v.t u.i iv.i)) 0→W.heap.size≤g→W.heap.size≤gO→Below W.heap.size W w→Q .normal a w):(Code.region id x4t true).wp Tryz.prog Q a0 W:=by
 refine j6y v u B gs ins Ai ci k iv bi oi x0 x1 hr hu hi hS hsd hca hA lb hqi hkk h0 t1 t5 t7 t8 ?_;have hSL:(List.range 13).map x9o=[38,39,40,41,42,43,44,37,45,46,9,10,9]:=rfl;intro a w hts hdf hk hb hp;obtain ⟨g,u',e1,hg,hbk,hu1,hu2⟩:∃ (g:Nat) (u':z1r),a.eval (.tmp 9)=.pointer (some ⟨g,0,none⟩)∧W.heap.size≤g∧Blk w g 41 #[.slice u'.A1 u'.i.rts.length u'.c1,.slice u'.A2 u'.i.lies.length u'.c2]∧u'.i=z1s v.t u.i iv.i∧ItO w W.heap.size u':=hp 12 (by decide);obtain ⟨gO,e2,hgO,hbO⟩:∃ g:Nat,a.eval (.tmp 10)=.pointer (some ⟨g,0,none⟩)∧W.heap.size≤g∧Blk w g 45 #[.slice none 0 0,.slice none 0 0,.slice none 0 0]:=hp 11 (by decide);obtain ⟨Ac,Al,Ar,cc,nl,cl,nr,cr,e3,ho⟩:∃ (Ac Al Ar:Option Addr) (cc nl cl nr cr:Nat),a.eval (.tmp 46)=.agg #[.slice Ac (z2d v.t (z1s v.t u.i iv.i)).length cc,.slice Al nl cl,.slice Ar nr cr]∧z09 cB w W.heap.size 4 (.slice Ac (z2d v.t (z1s v.t u.i iv.i)).length cc) (z2d v.t (z1s v.t u.i iv.i)) 0:=hp 9 (by decide);refine z6m (i:=13) (by kernel_rfl) ?_;refine z4r rfl ?_;refine z1b rfl _ _ _ rfl gO #[.slice Ac (z2d v.t (z1s v.t u.i iv.i)).length cc,.slice Al nl cl,.slice Ar nr cr] e2 e3 45 #[.slice none 0 0,.slice none 0 0,.slice none 0 0] hbO (by kernel_rfl) rfl (by simp[Value.oneCell']) ?_;refine z7w (by kernel_rfl) ?_;have p1:=z0q #[.slice Ac (z2d v.t (z1s v.t u.i iv.i)).length cc,.slice Al nl cl,.slice Ar nr cr] hbO;exact hend _ _ g gO u' Ac Al Ar cc nl cl nr cr hts hdf (fun s hs=>hk s (by rw[hSL];exact hs))  e1 e2 hu1 (hu2.frm p1.2 (by decide) (by decide)) (p1.2.blk hbk (by decide)) p1.1 (ho.frm p1.2 (by decide) nZ) hg hgO (hb.trans ((z3v #[.slice Ac (z2d v.t (z1s v.t u.i iv.i)).length cc,.slice Al nl cl,.slice Ar nr cr] hbO).2.mono hgO))
end Go.Proofs.YtpenlfedkacglaaGreatDoor
