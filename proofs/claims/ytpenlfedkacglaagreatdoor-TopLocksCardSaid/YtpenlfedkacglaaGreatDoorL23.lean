import Derived.Test.YtpenlfedkacglaaGreatDoorL22
set_option maxRecDepth 100000
set_option maxHeartbeats 40000000
set_option linter.all false
namespace Go.Proofs.YtpenlfedkacglaaGreatDoor
open Go.RowKit
attribute [local go_sem] z05 z07 z01 z02
attribute [-go_sem] run_equalIn_agg
attribute [-go_sem] loadCellsFrom
def y6m:Array Oper:=#[.mk (some 26) (.load 33 (.tmp 4)) 33 "progress.go:65" #[] none,.mk (some 27) (.load 49 (.tmp 6)) 49 "progress.go:65" #[] none,.mk (some 28) (.fieldAddr 33 (.tmp 4) 0) 0 "progress.go:65" #[] none,.mk (some 29) (.load 30 (.tmp 28)) 30 "progress.go:65" #[.mk 2 .data] none,.mk (some 30) (.move (.tmp 3)) 3 "progress.go:65" #[] none,.mk (some 31) (.indexAddr 30 (.tmp 29) (.tmp 30)) 0 "progress.go:65" #[.mk 3 .data,.mk 4 .data] none,.mk (some 32) (.load 56 (.tmp 31)) 56 "progress.go:65" #[.mk 5 .data] none,.mk (some 33) (.fieldAddr 41 (.tmp 5) 0) 0 "progress.go:65" #[] none,.mk (some 34) (.load 39 (.tmp 33)) 39 "progress.go:65" #[.mk 7 .data] none,.mk (some 35) (.move (.tmp 3)) 3 "progress.go:65" #[] none,.mk (some 36) (.indexAddr 39 (.tmp 34) (.tmp 35)) 0 "progress.go:65" #[.mk 8 .data,.mk 9 .data] none,.mk (some 37) (.load 58 (.tmp 36)) 58 "progress.go:65" #[.mk 10 .data] none,.mk (some 38) (.move (.tmp 3)) 3 "progress.go:65" #[] none,.mk (some 39) (.fieldAddr 49 (.tmp 6) 3) 0 "progress.go:65" #[] none,.mk (some 40) (.load 43 (.tmp 39)) 43 "progress.go:65" #[.mk 13 .data] none,.mk (some 41) (.call (.mk (.builtin .len) #[.tmp 40] #[43])) 3 "progress.go:65" #[.mk 14 .data] none,.mk (some 42) (.binOp .geq 3 (.tmp 38) (.tmp 41) 3) 4 "progress.go:65" #[.mk 12 .data,.mk 15 .data] none,.mk (some 43) (.move (.tmp 42)) 4 "progress.go:65" #[.mk 16 .data] none,.mk (some 44) (.fieldAddr 49 (.tmp 6) 3) 0 "progress.go:65" #[.mk 17 .guard] (some (17,false)),.mk (some 45) (.load 43 (.tmp 44)) 43 "progress.go:65" #[.mk 18 .data,.mk 17 .guard] (some (17,false)),.mk (some 46) (.move (.tmp 3)) 3 "progress.go:65" #[.mk 17 .guard] (some (17,false)),.mk (some 47) (.indexAddr 43 (.tmp 45) (.tmp 46)) 0 "progress.go:65" #[.mk 19 .data,.mk 20 .data,.mk 17 .guard] (some (17,false)),.mk (some 48) (.load 4 (.tmp 47)) 4 "progress.go:65" #[.mk 21 .data,.mk 17 .guard] (some (17,false)),.mk (some 49) (.pick (.tmp 43) (.const (.bool true)) (.tmp 48)) 4 "progress.go:65" #[.mk 17 .data,.mk 22 .data] none,.mk (some 50) (.move (.tmp 3)) 3 "progress.go:65" #[] none,.mk (some 51) (.fieldAddr 49 (.tmp 6) 4) 0 "progress.go:65" #[] none,.mk (some 52) (.load 43 (.tmp 51)) 43 "progress.go:65" #[.mk 25 .data] none,.mk (some 53) (.call (.mk (.builtin .len) #[.tmp 52] #[43])) 3 "progress.go:65" #[.mk 26 .data] none,.mk (some 54) (.binOp .lss 3 (.tmp 50) (.tmp 53) 3) 4 "progress.go:65" #[.mk 24 .data,.mk 27 .data] none,.mk (some 55) (.move (.tmp 54)) 4 "progress.go:65" #[.mk 28 .data,.mk 17 .chain] none,.mk (some 56) (.fieldAddr 49 (.tmp 6) 4) 0 "progress.go:65" #[.mk 29 .guard] (some (29,true)),.mk (some 57) (.load 43 (.tmp 56)) 43 "progress.go:65" #[.mk 30 .data,.mk 29 .guard] (some (29,true)),.mk (some 58) (.move (.tmp 3)) 3 "progress.go:65" #[.mk 29 .guard] (some (29,true)),.mk (some 59) (.indexAddr 43 (.tmp 57) (.tmp 58)) 0 "progress.go:65" #[.mk 31 .data,.mk 32 .data,.mk 29 .guard] (some (29,true)),.mk (some 60) (.load 4 (.tmp 59)) 4 "progress.go:65" #[.mk 33 .data,.mk 29 .guard] (some (29,true)),.mk (some 61) (.pick (.tmp 55) (.tmp 60) (.const (.bool false))) 4 "progress.go:65" #[.mk 29 .data,.mk 34 .data] none,.mk (some 62) (.fieldAddr 49 (.tmp 6) 6) 0 "progress.go:65" #[] none,.mk (some 63) (.load 31 (.tmp 62)) 31 "progress.go:65" #[.mk 36 .data] none,.mk (some 64) (.move (.tmp 3)) 3 "progress.go:65" #[] none,.mk (some 65) (.call (.mk (.value (.func 63)) #[.tmp 63,.tmp 64] #[31,3])) 4 "progress.go:69" #[.mk 37 .data,.mk 38 .data,.mk 29 .chain] none,.mk (some 66) (.load 33 (.tmp 4)) 33 "progress.go:65" #[] none,.mk (some 67) (.load 41 (.tmp 5)) 41 "progress.go:65" #[] none,.mk (some 68) (.load 49 (.tmp 6)) 49 "progress.go:65" #[] none,.mk (some 69) (.move (.tmp 3)) 3 "progress.go:65" #[] none,.mk (some 70) (.call (.mk (.value (.func 64)) #[.tmp 66,.tmp 67,.tmp 68,.tmp 69] #[33,41,49,3])) 4 "progress.go:70" #[.mk 40 .data,.mk 41 .data,.mk 42 .data,.mk 43 .data,.mk 39 .chain] none,.mk (some 71) (.build 125 #[(0,.tmp 26),(1,.tmp 27),(2,.tmp 32),(3,.tmp 37),(4,.tmp 49),(5,.tmp 61),(6,.tmp 65),(7,.tmp 70)]) 125 "progress.go:65" #[.mk 0 .data,.mk 1 .data,.mk 6 .data,.mk 11 .data,.mk 23 .data,.mk 35 .data,.mk 39 .data,.mk 44 .data] none,.mk (some 9) (.alloc 125) 0 "progress.go:65" #[] none,.mk none (.store 125 (.tmp 9) (.tmp 71)) 0 "progress.go:65" #[.mk 46 .data,.mk 45 .data,.mk 44 .chain,.mk 0 .phase,.mk 1 .phase,.mk 2 .phase,.mk 3 .phase,.mk 4 .phase,.mk 5 .phase,.mk 6 .phase,.mk 7 .phase,.mk 8 .phase,.mk 9 .phase,.mk 10 .phase,.mk 11 .phase,.mk 12 .phase,.mk 13 .phase,.mk 14 .phase,.mk 15 .phase,.mk 16 .phase,.mk 17 .phase,.mk 18 .phase,.mk 19 .phase,.mk 20 .phase,.mk 21 .phase,.mk 22 .phase,.mk 23 .phase,.mk 24 .phase,.mk 25 .phase,.mk 26 .phase,.mk 27 .phase,.mk 28 .phase,.mk 29 .phase,.mk 30 .phase,.mk 31 .phase,.mk 32 .phase,.mk 33 .phase,.mk 34 .phase,.mk 35 .phase,.mk 36 .phase,.mk 37 .phase,.mk 38 .phase,.mk 39 .phase,.mk 40 .phase,.mk 41 .phase,.mk 42 .phase,.mk 43 .phase,.mk 44 .phase,.mk 45 .phase,.mk 46 .phase] none]
def nxL (v:z1w) (u:z1r) (i:z3n) (k B:Nat) (rv:z2v) (x:RSt) (cl pa ca em:Bool) (b2 o2 bS oS bC oC bP oP:Nat):List Value:=[.agg (z0t v),.agg (z3t i),.pointer (some ⟨B,0,none⟩),.slice v.A1 v.t.rts.length v.c1,.int .i64 (k:Int),.pointer (some ⟨b2,o2+k*14,none⟩),.agg (z0e rv),.pointer (some ⟨B+1,0,none⟩),.slice u.A1 u.i.rts.length u.c1,.int .i64 (k:Int),.pointer (some ⟨bS,oS+k*3,none⟩),.agg #[.int .i64 x.st,.int .i64 x.rel,.int .i64 x.tim],.int .i64 (k:Int),.pointer (some ⟨B+1+1,3,none⟩),.slice i.A4 i.i.cla.length i.c4,.int .i64 (i.i.cla.length:Int),.bool (decide (i.i.cla.length≤k)),.bool (decide (i.i.cla.length≤k)),(if k < i.i.cla.length then .pointer (some ⟨B+1+1,3,none⟩) else undef),(if k < i.i.cla.length then .slice i.A4 i.i.cla.length i.c4 else undef),(if k < i.i.cla.length then .int .i64 (k:Int) else undef),(if k < i.i.cla.length then .pointer (some ⟨bC,oC+k,none⟩) else undef),(if k < i.i.cla.length then .bool cl else undef),.bool cl,.int .i64 (k:Int),.pointer (some ⟨B+1+1,4,none⟩),.slice i.A5 i.i.pas.length i.c5,.int .i64 (i.i.pas.length:Int),.bool (decide (k < i.i.pas.length)),.bool (decide (k < i.i.pas.length)),(if k < i.i.pas.length then .pointer (some ⟨B+1+1,4,none⟩) else undef),(if k < i.i.pas.length then .slice i.A5 i.i.pas.length i.c5 else undef),(if k < i.i.pas.length then .int .i64 (k:Int) else undef),(if k < i.i.pas.length then .pointer (some ⟨bP,oP+k,none⟩) else undef),(if k < i.i.pas.length then .bool pa else undef),.bool pa,.pointer (some ⟨B+1+1,6,none⟩),.slice i.A7 i.i.cans.length i.c7,.int .i64 (k:Int),.bool ca,.agg (z0t v),.agg (z1v u),.agg (z3t i),.int .i64 (k:Int),.bool em,.agg #[.slice v.A1 v.t.rts.length v.c1,.slice v.A2 v.t.pts.length v.c2,.slice v.A3 v.t.homes.length v.c3,.int .i64 v.t.nsec,.int .i64 v.t.nsig,.slice i.A1 i.i.occ.length i.c1,.slice i.A2 i.i.det.length i.c2,.slice i.A3 i.i.clo.length i.c3,.slice i.A4 i.i.cla.length i.c4,.slice i.A5 i.i.pas.length i.c5,.slice i.A6 i.i.calls.length i.c6,.slice i.A7 i.i.cans.length i.c7,.string (bs rv.r.name),.int .i64 rv.r.ent,.int .i64 rv.r.ext,.slice rv.A1 rv.r.path.length rv.c1,.slice rv.A2 rv.r.pts.length rv.c2,.slice rv.A3 rv.r.secs.length rv.c3,.int .i64 rv.r.app,.int .i64 rv.r.len,.slice rv.A4 rv.r.over.length rv.c4,.slice rv.A5 rv.r.opts.length rv.c5,.slice rv.A6 rv.r.osecs.length rv.c6,.slice rv.A7 rv.r.flk.length rv.c7,.slice rv.A8 rv.r.grd.length rv.c8,.slice rv.A9 rv.r.gap.length rv.c9,.int .i64 x.st,.int .i64 x.rel,.int .i64 x.tim,.bool cl,.bool pa,.bool ca,.bool em]]
structure CxN (v:z1w) (u:z1r) (i:z3n) (k B:Nat) (rv:z2v) (x:RSt) (cl pa ca em:Bool) (b2 o2 bS oS bC oC bP oP:Nat) (W:World):Prop where
 x0:Blk W B 33 (z0t v)
 x1:Blk W (B+1) 41 (z1v u)
 x2:Blk W (B+1+1) 49 (z3t i)
 hk:(k:Int) < (v.t.rts.length:Int)
 hu:(k:Int) < (u.i.rts.length:Int)
 a1:v.A1=some ⟨b2,o2,none⟩
 l1:b2 < W.heap.size
 q1:∀ (j:Nat) (y:Value),[.string (bs rv.r.name),.int .i64 rv.r.ent,.int .i64 rv.r.ext,.slice rv.A1 rv.r.path.length rv.c1,.slice rv.A2 rv.r.pts.length rv.c2,.slice rv.A3 rv.r.secs.length rv.c3,.int .i64 rv.r.app,.int .i64 rv.r.len,.slice rv.A4 rv.r.over.length rv.c4,.slice rv.A5 rv.r.opts.length rv.c5,.slice rv.A6 rv.r.osecs.length rv.c6,.slice rv.A7 rv.r.flk.length rv.c7,.slice rv.A8 rv.r.grd.length rv.c8,.slice rv.A9 rv.r.gap.length rv.c9][j]? = some y→W.cell? ⟨b2,o2+k*14+j,none⟩=some y
 a2:u.A1=some ⟨bS,oS,none⟩
 l2:bS < W.heap.size
 q2:∀ (j:Nat) (y:Value),[.int .i64 x.st,.int .i64 x.rel,.int .i64 x.tim][j]? = some y→W.cell? ⟨bS,oS+k*3+j,none⟩=some y
 a3:k < i.i.cla.length→i.A4=some ⟨bC,oC,none⟩∧bC < W.heap.size∧W.cell? ⟨bC,oC+k,none⟩=some (.bool cl)
 n3:¬k < i.i.cla.length→cl=true
 a4:k < i.i.pas.length→i.A5=some ⟨bP,oP,none⟩∧bP < W.heap.size∧W.cell? ⟨bP,oP+k,none⟩=some (.bool pa)
 n4:¬k < i.i.pas.length→pa=false
 m3:i.i.cla.length≤maxLen
 m4:i.i.pas.length≤maxLen
 em:∀ W',Below W.heap.size W W'→Calls Tryz.prog 64 #[.agg (z0t v),.agg (z1v u),.agg (z3t i),.int .i64 (k:Int)] W' fun e w'=>e=.returned (.bool em)∧Below W'.heap.size W' w'
 ca:∀ W',Below W.heap.size W W'→Calls Tryz.prog 63 #[.slice i.A7 i.i.cans.length i.c7,.int .i64 (k:Int)] W' fun e w'=>e=.returned (.bool ca)∧w' = W'
structure IvN (v:z1w) (u:z1r) (i:z3n) (k B:Nat) (rv:z2v) (x:RSt) (cl pa ca em:Bool) (b2 o2 bS oS bC oC bP oP:Nat) (W:World) (listed:Array Bool) (a:Act) (w:World):Prop where
 sz:listed.size=48
 ts:a.tmps.size=101
 df:a.defers=[]
 t3:a.eval (.tmp 3)=.int .i64 (k:Int)
 t4:a.eval (.tmp 4)=.pointer (some ⟨B,0,none⟩)
 t5:a.eval (.tmp 5)=.pointer (some ⟨B+1,0,none⟩)
 t6:a.eval (.tmp 6)=.pointer (some ⟨B+1+1,0,none⟩)
 t8:a.eval (.tmp 8)=.pointer (some ⟨B+1+1+1,0,none⟩)
 bel:Below W.heap.size W w
 at_:∀ (j:Nat) (y:Value),(nxL v u i k B rv x cl pa ca em b2 o2 bS oS bC oC bP oP)[j]? = some y→listed[j]? = some true→a.eval (.tmp (j+26))=y
 o47:listed[47]? = some true→listed[46]? = some true
 al:listed[46]? = some true→∃ g,a.eval (.tmp 9)=.pointer (some ⟨g,0,none⟩)∧W.heap.size≤g∧(listed[47]? = some false→Blk w g 125 #[.slice none 0 0,.slice none 0 0,.slice none 0 0,.int .i64 0,.int .i64 0,.slice none 0 0,.slice none 0 0,.slice none 0 0,.slice none 0 0,.slice none 0 0,.slice none 0 0,.slice none 0 0,.string (ByteArray.mk #[]),.int .i64 0,.int .i64 0,.slice none 0 0,.slice none 0 0,.slice none 0 0,.int .i64 0,.int .i64 0,.slice none 0 0,.slice none 0 0,.slice none 0 0,.slice none 0 0,.slice none 0 0,.slice none 0 0,.int .i64 0,.int .i64 0,.int .i64 0,.bool false,.bool false,.bool false,.bool false])∧(listed[47]? = some true→Blk w g 125 #[.slice v.A1 v.t.rts.length v.c1,.slice v.A2 v.t.pts.length v.c2,.slice v.A3 v.t.homes.length v.c3,.int .i64 v.t.nsec,.int .i64 v.t.nsig,.slice i.A1 i.i.occ.length i.c1,.slice i.A2 i.i.det.length i.c2,.slice i.A3 i.i.clo.length i.c3,.slice i.A4 i.i.cla.length i.c4,.slice i.A5 i.i.pas.length i.c5,.slice i.A6 i.i.calls.length i.c6,.slice i.A7 i.i.cans.length i.c7,.string (bs rv.r.name),.int .i64 rv.r.ent,.int .i64 rv.r.ext,.slice rv.A1 rv.r.path.length rv.c1,.slice rv.A2 rv.r.pts.length rv.c2,.slice rv.A3 rv.r.secs.length rv.c3,.int .i64 rv.r.app,.int .i64 rv.r.len,.slice rv.A4 rv.r.over.length rv.c4,.slice rv.A5 rv.r.opts.length rv.c5,.slice rv.A6 rv.r.osecs.length rv.c6,.slice rv.A7 rv.r.flk.length rv.c7,.slice rv.A8 rv.r.grd.length rv.c8,.slice rv.A9 rv.r.gap.length rv.c9,.int .i64 x.st,.int .i64 x.rel,.int .i64 x.tim,.bool cl,.bool pa,.bool ca,.bool em])
section
variable {v:z1w} {u:z1r} {i:z3n} {k B:Nat} {rv:z2v} {x:RSt} {cl pa ca em:Bool} {b2 o2 bS oS bC oC bP oP:Nat} {W:World} {listed:Array Bool} {a:Act} {w w':World} {Q:Exit→Act→World→Prop}
theorem y47:(nxL v u i k B rv x cl pa ca em b2 o2 bS oS bC oC bP oP).length=46:=rfl
theorem IvN.step (h:IvN v u i k B rv x cl pa ca em b2 o2 bS oS bC oC bP oP W listed a w) {d:Nat} (hi:d < 46) {y:Value} (hb:Below w.heap.size w w') (hx:(nxL v u i k B rv x cl pa ca em b2 o2 bS oS bC oC bP oP)[d]? = some y):IvN v u i k B rv x cl pa ca em b2 o2 bS oS bC oC bP oP W (listed.setIfInBounds d true) (a.put (some (d+26)) y) w':=by
 refine ⟨by rw[Array.size_setIfInBounds];exact h.sz,by rw[z7p];exact h.ts,h.df,by rw[z3i _ _ _ _ (by omega)];exact h.t3,by rw[z3i _ _ _ _ (by omega)];exact h.t4,by rw[z3i _ _ _ _ (by omega)];exact h.t5,by rw[z3i _ _ _ _ (by omega)];exact h.t6,by rw[z3i _ _ _ _ (by omega)];exact h.t8,z00 h.bel h.bel.size hb,fun j y2 hy2 hl=>?_,fun hl=>?_,fun hl=>?_⟩
 ·have hj:j < 46:=by have:=(List.getElem?_eq_some_iff.1 hy2).1;rwa [y47] at this
  by_cases e:d=j
  ·subst e;rw[z9r _ _ _ (by rw[h.ts];omega)];rw[hx] at hy2;exact sJ hy2
  ·rw[z3i _ _ _ _ (by omega)];rw[Array.getElem?_setIfInBounds_ne e] at hl;exact h.at_ j y2 hy2 hl
 ·rw[Array.getElem?_setIfInBounds_ne (by omega)] at hl ⊢;exact h.o47 hl
 ·rw[Array.getElem?_setIfInBounds_ne (by omega)] at hl ⊢;obtain ⟨g,h1,h2,h3,h4⟩:=h.al hl;exact ⟨g,by rw[z3i _ _ _ _ (by omega)];exact h1,h2,fun q=>(h3 q).now hb,fun q=>(h4 q).now hb⟩
theorem IvN.made (h:IvN v u i k B rv x cl pa ca em b2 o2 bS oS bC oC bP oP W listed a w) (hl:listed[46]? = some false):IvN v u i k B rv x cl pa ca em b2 o2 bS oS bC oC bP oP W (listed.setIfInBounds 46 true) (a.put (some 9) (.pointer (some ⟨w.heap.size,0,none⟩))) (w.alloc (.cells #[.slice none 0 0,.slice none 0 0,.slice none 0 0,.int .i64 0,.int .i64 0,.slice none 0 0,.slice none 0 0,.slice none 0 0,.slice none 0 0,.slice none 0 0,.slice none 0 0,.slice none 0 0,.string (ByteArray.mk #[]),.int .i64 0,.int .i64 0,.slice none 0 0,.slice none 0 0,.slice none 0 0,.int .i64 0,.int .i64 0,.slice none 0 0,.slice none 0 0,.slice none 0 0,.slice none 0 0,.slice none 0 0,.slice none 0 0,.int .i64 0,.int .i64 0,.int .i64 0,.bool false,.bool false,.bool false,.bool false] 125)):=by
 have hn:listed[47]?≠some true:=fun q=>by rw[h.o47 q] at hl;cases hl
 refine ⟨by rw[Array.size_setIfInBounds];exact h.sz,by rw[z7p];exact h.ts,h.df,by rw[z3i _ _ _ _ (by omega)];exact h.t3,by rw[z3i _ _ _ _ (by omega)];exact h.t4,by rw[z3i _ _ _ _ (by omega)];exact h.t5,by rw[z3i _ _ _ _ (by omega)];exact h.t6,by rw[z3i _ _ _ _ (by omega)];exact h.t8,h.bel.alloc h.bel.size _,fun j y2 hy2 hl=>?_,fun hl=>?_,fun _=>?_⟩
 ·have hj:j < 46:=by have:=(List.getElem?_eq_some_iff.1 hy2).1;rwa [y47] at this
  rw[z3i _ _ _ _ (by omega)];rw[Array.getElem?_setIfInBounds_ne (by omega)] at hl;exact h.at_ j y2 hy2 hl
 ·rw[Array.getElem?_setIfInBounds_ne (by omega)] at hl;exact absurd hl hn
 ·refine ⟨w.heap.size,z9r _ _ _ (by rw[h.ts];omega),h.bel.size,fun _=>Blk.new _ _ _ _ rfl,fun q=>?_⟩;rw[Array.getElem?_setIfInBounds_ne (by omega)] at q;exact absurd q hn
theorem IvN.stored (h:IvN v u i k B rv x cl pa ca em b2 o2 bS oS bC oC bP oP W listed a w) {g:Nat} (h46:listed[46]? = some true) (h9:a.eval (.tmp 9)=.pointer (some ⟨g,0,none⟩)) (hg:W.heap.size≤g) (hb:Blk w g 125 #[.slice none 0 0,.slice none 0 0,.slice none 0 0,.int .i64 0,.int .i64 0,.slice none 0 0,.slice none 0 0,.slice none 0 0,.slice none 0 0,.slice none 0 0,.slice none 0 0,.slice none 0 0,.string (ByteArray.mk #[]),.int .i64 0,.int .i64 0,.slice none 0 0,.slice none 0 0,.slice none 0 0,.int .i64 0,.int .i64 0,.slice none 0 0,.slice none 0 0,.slice none 0 0,.slice none 0 0,.slice none 0 0,.slice none 0 0,.int .i64 0,.int .i64 0,.int .i64 0,.bool false,.bool false,.bool false,.bool false]):IvN v u i k B rv x cl pa ca em b2 o2 bS oS bC oC bP oP W (listed.setIfInBounds 47 true) (a.put none undef) (w.setRow g #[.slice v.A1 v.t.rts.length v.c1,.slice v.A2 v.t.pts.length v.c2,.slice v.A3 v.t.homes.length v.c3,.int .i64 v.t.nsec,.int .i64 v.t.nsig,.slice i.A1 i.i.occ.length i.c1,.slice i.A2 i.i.det.length i.c2,.slice i.A3 i.i.clo.length i.c3,.slice i.A4 i.i.cla.length i.c4,.slice i.A5 i.i.pas.length i.c5,.slice i.A6 i.i.calls.length i.c6,.slice i.A7 i.i.cans.length i.c7,.string (bs rv.r.name),.int .i64 rv.r.ent,.int .i64 rv.r.ext,.slice rv.A1 rv.r.path.length rv.c1,.slice rv.A2 rv.r.pts.length rv.c2,.slice rv.A3 rv.r.secs.length rv.c3,.int .i64 rv.r.app,.int .i64 rv.r.len,.slice rv.A4 rv.r.over.length rv.c4,.slice rv.A5 rv.r.opts.length rv.c5,.slice rv.A6 rv.r.osecs.length rv.c6,.slice rv.A7 rv.r.flk.length rv.c7,.slice rv.A8 rv.r.grd.length rv.c8,.slice rv.A9 rv.r.gap.length rv.c9,.int .i64 x.st,.int .i64 x.rel,.int .i64 x.tim,.bool cl,.bool pa,.bool ca,.bool em]):=by
 obtain ⟨p1,p2⟩:=z3v #[.slice v.A1 v.t.rts.length v.c1,.slice v.A2 v.t.pts.length v.c2,.slice v.A3 v.t.homes.length v.c3,.int .i64 v.t.nsec,.int .i64 v.t.nsig,.slice i.A1 i.i.occ.length i.c1,.slice i.A2 i.i.det.length i.c2,.slice i.A3 i.i.clo.length i.c3,.slice i.A4 i.i.cla.length i.c4,.slice i.A5 i.i.pas.length i.c5,.slice i.A6 i.i.calls.length i.c6,.slice i.A7 i.i.cans.length i.c7,.string (bs rv.r.name),.int .i64 rv.r.ent,.int .i64 rv.r.ext,.slice rv.A1 rv.r.path.length rv.c1,.slice rv.A2 rv.r.pts.length rv.c2,.slice rv.A3 rv.r.secs.length rv.c3,.int .i64 rv.r.app,.int .i64 rv.r.len,.slice rv.A4 rv.r.over.length rv.c4,.slice rv.A5 rv.r.opts.length rv.c5,.slice rv.A6 rv.r.osecs.length rv.c6,.slice rv.A7 rv.r.flk.length rv.c7,.slice rv.A8 rv.r.grd.length rv.c8,.slice rv.A9 rv.r.gap.length rv.c9,.int .i64 x.st,.int .i64 x.rel,.int .i64 x.tim,.bool cl,.bool pa,.bool ca,.bool em] hb;refine ⟨by rw[Array.size_setIfInBounds];exact h.sz,by rw[z7p];exact h.ts,h.df,h.t3,h.t4,h.t5,h.t6,h.t8,h.bel.trans (p2.mono hg),fun j y2 hy2 hl=>?_,fun hl=>?_,fun _=>?_⟩
 ·have hj:j < 46:=by have:=(List.getElem?_eq_some_iff.1 hy2).1;rwa [y47] at this
  rw[Array.getElem?_setIfInBounds_ne (by omega)] at hl;exact h.at_ j y2 hy2 hl
 ·rw[Array.getElem?_setIfInBounds_ne (by omega)];exact h46
 ·refine ⟨g,h9,hg,fun q=>?_,fun _=>p1⟩;rw[Array.getElem?_setIfInBounds_self] at q;split at q <;> cases q
theorem x7u (h2:a.tmps.size=101) (h3:a.defers=[]) (t3:a.eval (.tmp 3)=.int .i64 (k:Int)) (t4:a.eval (.tmp 4)=.pointer (some ⟨B,0,none⟩)) (t5:a.eval (.tmp 5)=.pointer (some ⟨B+1,0,none⟩)) (t6:a.eval (.tmp 6)=.pointer (some ⟨B+1+1,0,none⟩)) (t8:a.eval (.tmp 8)=.pointer (some ⟨B+1+1+1,0,none⟩)):IvN v u i k B rv x cl pa ca em b2 o2 bS oS bC oC bP oP W (Array.replicate 48 false) a W.drew:=
 ⟨by simp,h2,h3,t3,t4,t5,t6,t8,bQ.drew,fun j y hy hl=>by
  have hj:j < 46:=by have:=(List.getElem?_eq_some_iff.1 hy).1;rwa [y47] at this
  simp[Array.getElem?_replicate,show j < 48 by omega] at hl,fun hl=>by simp[Array.getElem?_replicate] at hl,fun hl=>by simp[Array.getElem?_replicate] at hl⟩
theorem stN {j d:Nat} {op:Op} {ty:TypeId} {ps:String} {af:Array Edge} {g:Option (Nat × Bool)} (ho:y6m[j]? = some (.mk (some d) op ty ps af g)) (hj:d=j+26∧j < 46) (h:IvN v u i k B rv x cl pa ca em b2 o2 bS oS bC oC bP oP W listed a w) (kk:∀ K:Act→World→Prop,Hid (∀ y w',Below w.heap.size w w'→(nxL v u i k B rv x cl pa ca em b2 o2 bS oS bC oC bP oP)[j]? = some y→K (a.put (some d) y) w')→if Region.wanted (.mk (some d) op ty ps af g) (yielded y6m a.tmps)=true then Oper.wp Tryz.prog (.mk (some d) op ty ps af g) a w K Q else K (a.put (some d) undef) w) :
  wpOp Tryz.prog y6m Q j (fun a' w'=>IvN v u i k B rv x cl pa ca em b2 o2 bS oS bC oC bP oP W (listed.setIfInBounds j true) a' w') a w:=by
 obtain ⟨rfl,hj⟩:=hj;exact z4r ho (kk _ (hE fun y w' hb hx=>h.step hj hb hx))
theorem wtN {j dd:Nat} {b:Bool} {d:Option Nat} {op:Op} {ty:TypeId} {ps:String} {af:Array Edge} {o:Oper} (ho:y6m[j]? = some o) (hd:o.dst=some dd) (he:a.eval (.tmp dd)=.bool b) (c:Bool) (hc:(b==c)=true):Region.wanted (.mk d op ty ps af (some (j,c))) (yielded y6m a.tmps)=true:=by
 simp only[Region.wanted,j9v ho hd he];simpa using hc
theorem wnN {j dd:Nat} {b:Bool} {d:Option Nat} {op:Op} {ty:TypeId} {ps:String} {af:Array Edge} {o:Oper} (ho:y6m[j]? = some o) (hd:o.dst=some dd) (he:a.eval (.tmp dd)=.bool b) (c:Bool) (hc:(b==c)=false):¬Region.wanted (.mk d op ty ps af (some (j,c))) (yielded y6m a.tmps)=true:=by
 simp only[Region.wanted,j9v ho hd he];simpa using hc
theorem k0e {j:Nat} (C:CxN v u i k B rv x cl pa ca em b2 o2 bS oS bC oC bP oP W) (h:IvN v u i k B rv x cl pa ca em b2 o2 bS oS bC oC bP oP W listed a w) (hd:∀ o,y6m[j]? = some o→∀ e∈o.after,Region.binds .any e=true→listed[e.on]? = some true) (hl:listed[j]? = some false) (h1:0≤j) (h2:j < 12):wpOp Tryz.prog y6m Q j (fun a' w'=>IvN v u i k B rv x cl pa ca em b2 o2 bS oS bC oC bP oP W (listed.setIfInBounds j true) a' w') a w:=by
 have hc:j=0∨j=1∨j=2∨j=3∨j=4∨j=5∨j=6∨j=7∨j=8∨j=9∨j=10∨j=11:=by omega
 clear h1 h2;rcases hc with rfl | rfl | rfl | rfl | rfl | rfl | rfl | rfl | rfl | rfl | rfl | rfl
 ·refine stN rfl (by decide) h fun K hK=>?_
  have t4:=h.t4;rw[z06] at t4;have ld:=z0c (C.x0.now h.bel) 5 rfl;have hlt:=(C.x0.now h.bel).lt;clear h hd hl C;go_simp
  exact hK.out _ _ bQ rfl
 ·refine stN rfl (by decide) h fun K hK=>?_
  have t6:=h.t6;rw[z06] at t6;have ld:=z0c (C.x2.now h.bel) 7 rfl;have hlt:=(C.x2.now h.bel).lt;clear h hd hl C;go_simp
  exact hK.out _ _ bQ rfl
 ·refine stN rfl (by decide) h fun K hK=>?_
  have t4:=h.t4;rw[z06] at t4;clear h hd hl C;go_simp
  exact hK.out _ _ bQ rfl
 ·refine stN rfl (by decide) h fun K hK=>?_
  have e2:a.eval (.tmp 28)=.pointer (some ⟨B,0,none⟩):=(h.at_ 2 _ rfl (z0w hd rfl 0 rfl rfl))
  rw[z06] at e2;have ld:=(C.x0.now h.bel).cell 0;simp only[gqA,gqZ,gqS] at ld;have hlt:=(C.x0.now h.bel).lt;clear h hd hl C;go_simp
  exact hK.out _ _ bQ rfl
 ·refine stN rfl (by decide) h fun K hK=>?_
  have t3:=h.t3;rw[z06] at t3;clear h hd hl C;go_simp
  exact hK.out _ _ bQ rfl
 ·refine stN rfl (by decide) h fun K hK=>?_
  have e3:a.eval (.tmp 29)=.slice v.A1 v.t.rts.length v.c1:=(h.at_ 3 _ rfl (z0w hd rfl 0 rfl rfl))
  rw[z06] at e3;have e4:a.eval (.tmp 30)=.int .i64 (k:Int):=(h.at_ 4 _ rfl (z0w hd rfl 1 rfl rfl))
  rw[z06] at e4;have hh:=C.hk;rw[C.a1] at e3;clear h hd hl C;go_simp
  exact hK.out _ _ bQ rfl
 ·refine stN rfl (by decide) h fun K hK=>?_
  have e5:a.eval (.tmp 31)=.pointer (some ⟨b2,o2+k*14,none⟩):=(h.at_ 5 _ rfl (z0w hd rfl 0 rfl rfl))
  rw[z06] at e5;have ld:=z2y (n:=14) rfl (fun j y hy=>(h.bel.cell (p:=⟨b2,o2+k*14+j,none⟩) C.l1).trans (C.q1 j y hy));simp only[List.toArray] at ld;clear h hd hl C;go_simp
  exact hK.out _ _ bQ rfl
 ·refine stN rfl (by decide) h fun K hK=>?_
  have t5:=h.t5;rw[z06] at t5;clear h hd hl C;go_simp
  exact hK.out _ _ bQ rfl
 ·refine stN rfl (by decide) h fun K hK=>?_
  have e7:a.eval (.tmp 33)=.pointer (some ⟨B+1,0,none⟩):=(h.at_ 7 _ rfl (z0w hd rfl 0 rfl rfl))
  rw[z06] at e7;have ld:=(C.x1.now h.bel).cell 0;simp only[gqA,gqZ,gqS] at ld;have hlt:=(C.x1.now h.bel).lt;clear h hd hl C;go_simp
  exact hK.out _ _ bQ rfl
 ·refine stN rfl (by decide) h fun K hK=>?_
  have t3:=h.t3;rw[z06] at t3;clear h hd hl C;go_simp
  exact hK.out _ _ bQ rfl
 ·refine stN rfl (by decide) h fun K hK=>?_
  have e8:a.eval (.tmp 34)=.slice u.A1 u.i.rts.length u.c1:=(h.at_ 8 _ rfl (z0w hd rfl 0 rfl rfl))
  rw[z06] at e8;have e9:a.eval (.tmp 35)=.int .i64 (k:Int):=(h.at_ 9 _ rfl (z0w hd rfl 1 rfl rfl))
  rw[z06] at e9;have hh:=C.hu;rw[C.a2] at e8;clear h hd hl C;go_simp
  exact hK.out _ _ bQ rfl
 ·refine stN rfl (by decide) h fun K hK=>?_
  have e10:a.eval (.tmp 36)=.pointer (some ⟨bS,oS+k*3,none⟩):=(h.at_ 10 _ rfl (z0w hd rfl 0 rfl rfl))
  rw[z06] at e10;have ld:=z2y (n:=3) rfl (fun j y hy=>(h.bel.cell (p:=⟨bS,oS+k*3+j,none⟩) C.l2).trans (C.q2 j y hy));clear h hd hl C;go_simp
  exact hK.out _ _ bQ rfl
theorem k0f {j:Nat} (C:CxN v u i k B rv x cl pa ca em b2 o2 bS oS bC oC bP oP W) (h:IvN v u i k B rv x cl pa ca em b2 o2 bS oS bC oC bP oP W listed a w) (hd:∀ o,y6m[j]? = some o→∀ e∈o.after,Region.binds .any e=true→listed[e.on]? = some true) (hl:listed[j]? = some false) (h1:12≤j) (h2:j < 24):wpOp Tryz.prog y6m Q j (fun a' w'=>IvN v u i k B rv x cl pa ca em b2 o2 bS oS bC oC bP oP W (listed.setIfInBounds j true) a' w') a w:=by
 have hc:j=12∨j=13∨j=14∨j=15∨j=16∨j=17∨j=18∨j=19∨j=20∨j=21∨j=22∨j=23:=by omega
 clear h1 h2;rcases hc with rfl | rfl | rfl | rfl | rfl | rfl | rfl | rfl | rfl | rfl | rfl | rfl
 ·refine stN rfl (by decide) h fun K hK=>?_
  have t3:=h.t3;rw[z06] at t3;clear h hd hl C;go_simp
  exact hK.out _ _ bQ rfl
 ·refine stN rfl (by decide) h fun K hK=>?_
  have t6:=h.t6;rw[z06] at t6;clear h hd hl C;go_simp
  exact hK.out _ _ bQ rfl
 ·refine stN rfl (by decide) h fun K hK=>?_
  have e13:a.eval (.tmp 39)=.pointer (some ⟨B+1+1,3,none⟩):=(h.at_ 13 _ rfl (z0w hd rfl 0 rfl rfl))
  rw[z06] at e13;have ld:=(C.x2.now h.bel).cell 3;simp only[gqA,gqZ,gqS] at ld;have hlt:=(C.x2.now h.bel).lt;clear h hd hl C;go_simp
  exact hK.out _ _ bQ rfl
 ·refine stN rfl (by decide) h fun K hK=>?_
  have e14:a.eval (.tmp 40)=.slice i.A4 i.i.cla.length i.c4:=(h.at_ 14 _ rfl (z0w hd rfl 0 rfl rfl))
  rw[z06] at e14;have hm:=C.m3;unfold maxLen at hm;clear h hd hl C;go_simp
  exact hK.out _ _ bQ rfl
 ·refine stN rfl (by decide) h fun K hK=>?_
  have e12:a.eval (.tmp 38)=.int .i64 (k:Int):=(h.at_ 12 _ rfl (z0w hd rfl 0 rfl rfl))
  rw[z06] at e12;have e15:a.eval (.tmp 41)=.int .i64 (i.i.cla.length:Int):=(h.at_ 15 _ rfl (z0w hd rfl 1 rfl rfl))
  rw[z06] at e15;have hm:=C.m3;unfold maxLen at hm;clear h hd hl C;go_simp
  exact hK.out _ _ bQ rfl
 ·refine stN rfl (by decide) h fun K hK=>?_
  have e16:a.eval (.tmp 42)=.bool (decide (i.i.cla.length≤k)):=(h.at_ 16 _ rfl (z0w hd rfl 0 rfl rfl))
  rw[z06] at e16;clear h hd hl C;go_simp
  exact hK.out _ _ bQ rfl
 ·refine stN rfl (by decide) h fun K hK=>?_
  have e17:a.eval (.tmp 43)=.bool (decide (i.i.cla.length≤k)):=(h.at_ 17 _ rfl (z0w hd rfl 0 rfl rfl))
  by_cases hc:k < i.i.cla.length
  ·rw[if_pos (wtN rfl rfl e17 false (by rw[dFf (by omega)];rfl))];clear e17;have t6:=h.t6;rw[z06] at t6;have hc2:=hE hc;clear h hc hd hl C;go_simp
   exact hK.out _ _ bQ (congrArg some (if_pos hc2.out))
  ·rw[if_neg (wnN rfl rfl e17 false (by rw[dTt (by omega)];rfl))];exact hK.out _ _ bQ (congrArg some (if_neg hc))
 ·refine stN rfl (by decide) h fun K hK=>?_
  have e17:a.eval (.tmp 43)=.bool (decide (i.i.cla.length≤k)):=(h.at_ 17 _ rfl (z0w hd rfl 1 rfl rfl))
  by_cases hc:k < i.i.cla.length
  ·rw[if_pos (wtN rfl rfl e17 false (by rw[dFf (by omega)];rfl))];clear e17;have e18:a.eval (.tmp 44)=.pointer (some ⟨B+1+1,3,none⟩):=(h.at_ 18 _ rfl (z0w hd rfl 0 rfl rfl)).trans (if_pos hc);rw[z06] at e18;have ld:=(C.x2.now h.bel).cell 3;simp only[gqA,gqZ,gqS] at ld;have hc2:=hE hc;clear h hc hd hl C;go_simp
   exact hK.out _ _ bQ (congrArg some (if_pos hc2.out))
  ·rw[if_neg (wnN rfl rfl e17 false (by rw[dTt (by omega)];rfl))];exact hK.out _ _ bQ (congrArg some (if_neg hc))
 ·refine stN rfl (by decide) h fun K hK=>?_
  have e17:a.eval (.tmp 43)=.bool (decide (i.i.cla.length≤k)):=(h.at_ 17 _ rfl (z0w hd rfl 0 rfl rfl))
  by_cases hc:k < i.i.cla.length
  ·rw[if_pos (wtN rfl rfl e17 false (by rw[dFf (by omega)];rfl))];clear e17;have t3:=h.t3;rw[z06] at t3;have hc2:=hE hc;clear h hc hd hl C;go_simp
   exact hK.out _ _ bQ (congrArg some (if_pos hc2.out))
  ·rw[if_neg (wnN rfl rfl e17 false (by rw[dTt (by omega)];rfl))];exact hK.out _ _ bQ (congrArg some (if_neg hc))
 ·refine stN rfl (by decide) h fun K hK=>?_
  have e17:a.eval (.tmp 43)=.bool (decide (i.i.cla.length≤k)):=(h.at_ 17 _ rfl (z0w hd rfl 2 rfl rfl))
  by_cases hc:k < i.i.cla.length
  ·rw[if_pos (wtN rfl rfl e17 false (by rw[dFf (by omega)];rfl))];clear e17;have e19:a.eval (.tmp 45)=.slice i.A4 i.i.cla.length i.c4:=(h.at_ 19 _ rfl (z0w hd rfl 0 rfl rfl)).trans (if_pos hc);rw[z06] at e19;have e20:a.eval (.tmp 46)=.int .i64 (k:Int):=(h.at_ 20 _ rfl (z0w hd rfl 1 rfl rfl)).trans (if_pos hc);rw[z06] at e20;rw[(C.a3 hc).1] at e19;have hh:(k:Int) < (i.i.cla.length:Int):=by omega
   have hc2:=hE hc;clear h hc hd hl C;go_simp
   exact hK.out _ _ bQ (congrArg some (if_pos hc2.out))
  ·rw[if_neg (wnN rfl rfl e17 false (by rw[dTt (by omega)];rfl))];exact hK.out _ _ bQ (congrArg some (if_neg hc))
 ·refine stN rfl (by decide) h fun K hK=>?_
  have e17:a.eval (.tmp 43)=.bool (decide (i.i.cla.length≤k)):=(h.at_ 17 _ rfl (z0w hd rfl 1 rfl rfl))
  by_cases hc:k < i.i.cla.length
  ·rw[if_pos (wtN rfl rfl e17 false (by rw[dFf (by omega)];rfl))];clear e17;have e21:a.eval (.tmp 47)=.pointer (some ⟨bC,oC+k,none⟩):=(h.at_ 21 _ rfl (z0w hd rfl 0 rfl rfl)).trans (if_pos hc);rw[z06] at e21;have ld:=(h.bel.cell (p:=⟨bC,oC+k,none⟩) (C.a3 hc).2.1).trans (C.a3 hc).2.2;have hlt:bC < w.heap.size:=nT (C.a3 hc).2.1 h.bel.size;have hc2:=hE hc;clear h hc hd hl C;go_simp
   exact hK.out _ _ bQ (congrArg some (if_pos hc2.out))
  ·rw[if_neg (wnN rfl rfl e17 false (by rw[dTt (by omega)];rfl))];exact hK.out _ _ bQ (congrArg some (if_neg hc))
 ·refine stN rfl (by decide) h fun K hK=>?_
  have e17:a.eval (.tmp 43)=.bool (decide (i.i.cla.length≤k)):=(h.at_ 17 _ rfl (z0w hd rfl 0 rfl rfl))
  by_cases hc:k < i.i.cla.length
  ·rw[dFf (by omega),z06] at e17;have e22:a.eval (.tmp 48)=.bool cl:=(h.at_ 22 _ rfl (z0w hd rfl 1 rfl rfl)).trans (if_pos hc);rw[z06] at e22;clear h hc hd hl C;go_simp
   exact hK.out _ _ bQ rfl
  ·rw[dTt (by omega),z06] at e17;have hcl:=C.n3 hc;clear h hc hd hl C;go_simp
   exact hK.out _ _ bQ (by rw[hcl];rfl)
theorem k0g {j:Nat} (C:CxN v u i k B rv x cl pa ca em b2 o2 bS oS bC oC bP oP W) (h:IvN v u i k B rv x cl pa ca em b2 o2 bS oS bC oC bP oP W listed a w) (hd:∀ o,y6m[j]? = some o→∀ e∈o.after,Region.binds .any e=true→listed[e.on]? = some true) (hl:listed[j]? = some false) (h1:24≤j) (h2:j < 36):wpOp Tryz.prog y6m Q j (fun a' w'=>IvN v u i k B rv x cl pa ca em b2 o2 bS oS bC oC bP oP W (listed.setIfInBounds j true) a' w') a w:=by
 have hc:j=24∨j=25∨j=26∨j=27∨j=28∨j=29∨j=30∨j=31∨j=32∨j=33∨j=34∨j=35:=by omega
 clear h1 h2;rcases hc with rfl | rfl | rfl | rfl | rfl | rfl | rfl | rfl | rfl | rfl | rfl | rfl
 ·refine stN rfl (by decide) h fun K hK=>?_
  have t3:=h.t3;rw[z06] at t3;clear h hd hl C;go_simp
  exact hK.out _ _ bQ rfl
 ·refine stN rfl (by decide) h fun K hK=>?_
  have t6:=h.t6;rw[z06] at t6;clear h hd hl C;go_simp
  exact hK.out _ _ bQ rfl
 ·refine stN rfl (by decide) h fun K hK=>?_
  have e25:a.eval (.tmp 51)=.pointer (some ⟨B+1+1,4,none⟩):=(h.at_ 25 _ rfl (z0w hd rfl 0 rfl rfl))
  rw[z06] at e25;have ld:=(C.x2.now h.bel).cell 4;simp only[gqA,gqZ,gqS] at ld;have hlt:=(C.x2.now h.bel).lt;clear h hd hl C;go_simp
  exact hK.out _ _ bQ rfl
 ·refine stN rfl (by decide) h fun K hK=>?_
  have e26:a.eval (.tmp 52)=.slice i.A5 i.i.pas.length i.c5:=(h.at_ 26 _ rfl (z0w hd rfl 0 rfl rfl))
  rw[z06] at e26;have hm:=C.m4;unfold maxLen at hm;clear h hd hl C;go_simp
  exact hK.out _ _ bQ rfl
 ·refine stN rfl (by decide) h fun K hK=>?_
  have e24:a.eval (.tmp 50)=.int .i64 (k:Int):=(h.at_ 24 _ rfl (z0w hd rfl 0 rfl rfl))
  rw[z06] at e24;have e27:a.eval (.tmp 53)=.int .i64 (i.i.pas.length:Int):=(h.at_ 27 _ rfl (z0w hd rfl 1 rfl rfl))
  rw[z06] at e27;have hm:=C.m4;unfold maxLen at hm;clear h hd hl C;go_simp
  exact hK.out _ _ bQ rfl
 ·refine stN rfl (by decide) h fun K hK=>?_
  have e28:a.eval (.tmp 54)=.bool (decide (k < i.i.pas.length)):=(h.at_ 28 _ rfl (z0w hd rfl 0 rfl rfl))
  rw[z06] at e28;clear h hd hl C;go_simp
  exact hK.out _ _ bQ rfl
 ·refine stN rfl (by decide) h fun K hK=>?_
  have e29:a.eval (.tmp 55)=.bool (decide (k < i.i.pas.length)):=(h.at_ 29 _ rfl (z0w hd rfl 0 rfl rfl))
  by_cases hc:k < i.i.pas.length
  ·rw[if_pos (wtN rfl rfl e29 true (by rw[dTt (by omega)];rfl))];clear e29;have t6:=h.t6;rw[z06] at t6;have hc2:=hE hc;clear h hc hd hl C;go_simp
   exact hK.out _ _ bQ (congrArg some (if_pos hc2.out))
  ·rw[if_neg (wnN rfl rfl e29 true (by rw[dFf (by omega)];rfl))];exact hK.out _ _ bQ (congrArg some (if_neg hc))
 ·refine stN rfl (by decide) h fun K hK=>?_
  have e29:a.eval (.tmp 55)=.bool (decide (k < i.i.pas.length)):=(h.at_ 29 _ rfl (z0w hd rfl 1 rfl rfl))
  by_cases hc:k < i.i.pas.length
  ·rw[if_pos (wtN rfl rfl e29 true (by rw[dTt (by omega)];rfl))];clear e29;have e30:a.eval (.tmp 56)=.pointer (some ⟨B+1+1,4,none⟩):=(h.at_ 30 _ rfl (z0w hd rfl 0 rfl rfl)).trans (if_pos hc);rw[z06] at e30;have ld:=(C.x2.now h.bel).cell 4;simp only[gqA,gqZ,gqS] at ld;have hc2:=hE hc;clear h hc hd hl C;go_simp
   exact hK.out _ _ bQ (congrArg some (if_pos hc2.out))
  ·rw[if_neg (wnN rfl rfl e29 true (by rw[dFf (by omega)];rfl))];exact hK.out _ _ bQ (congrArg some (if_neg hc))
 ·refine stN rfl (by decide) h fun K hK=>?_
  have e29:a.eval (.tmp 55)=.bool (decide (k < i.i.pas.length)):=(h.at_ 29 _ rfl (z0w hd rfl 0 rfl rfl))
  by_cases hc:k < i.i.pas.length
  ·rw[if_pos (wtN rfl rfl e29 true (by rw[dTt (by omega)];rfl))];clear e29;have t3:=h.t3;rw[z06] at t3;have hc2:=hE hc;clear h hc hd hl C;go_simp
   exact hK.out _ _ bQ (congrArg some (if_pos hc2.out))
  ·rw[if_neg (wnN rfl rfl e29 true (by rw[dFf (by omega)];rfl))];exact hK.out _ _ bQ (congrArg some (if_neg hc))
 ·refine stN rfl (by decide) h fun K hK=>?_
  have e29:a.eval (.tmp 55)=.bool (decide (k < i.i.pas.length)):=(h.at_ 29 _ rfl (z0w hd rfl 2 rfl rfl))
  by_cases hc:k < i.i.pas.length
  ·rw[if_pos (wtN rfl rfl e29 true (by rw[dTt (by omega)];rfl))];clear e29;have e31:a.eval (.tmp 57)=.slice i.A5 i.i.pas.length i.c5:=(h.at_ 31 _ rfl (z0w hd rfl 0 rfl rfl)).trans (if_pos hc);rw[z06] at e31;have e32:a.eval (.tmp 58)=.int .i64 (k:Int):=(h.at_ 32 _ rfl (z0w hd rfl 1 rfl rfl)).trans (if_pos hc);rw[z06] at e32;rw[(C.a4 hc).1] at e31;have hh:(k:Int) < (i.i.pas.length:Int):=by omega
   have hc2:=hE hc;clear h hc hd hl C;go_simp
   exact hK.out _ _ bQ (congrArg some (if_pos hc2.out))
  ·rw[if_neg (wnN rfl rfl e29 true (by rw[dFf (by omega)];rfl))];exact hK.out _ _ bQ (congrArg some (if_neg hc))
 ·refine stN rfl (by decide) h fun K hK=>?_
  have e29:a.eval (.tmp 55)=.bool (decide (k < i.i.pas.length)):=(h.at_ 29 _ rfl (z0w hd rfl 1 rfl rfl))
  by_cases hc:k < i.i.pas.length
  ·rw[if_pos (wtN rfl rfl e29 true (by rw[dTt (by omega)];rfl))];clear e29;have e33:a.eval (.tmp 59)=.pointer (some ⟨bP,oP+k,none⟩):=(h.at_ 33 _ rfl (z0w hd rfl 0 rfl rfl)).trans (if_pos hc);rw[z06] at e33;have ld:=(h.bel.cell (p:=⟨bP,oP+k,none⟩) (C.a4 hc).2.1).trans (C.a4 hc).2.2;have hlt:bP < w.heap.size:=nT (C.a4 hc).2.1 h.bel.size;have hc2:=hE hc;clear h hc hd hl C;go_simp
   exact hK.out _ _ bQ (congrArg some (if_pos hc2.out))
  ·rw[if_neg (wnN rfl rfl e29 true (by rw[dFf (by omega)];rfl))];exact hK.out _ _ bQ (congrArg some (if_neg hc))
 ·refine stN rfl (by decide) h fun K hK=>?_
  have e29:a.eval (.tmp 55)=.bool (decide (k < i.i.pas.length)):=(h.at_ 29 _ rfl (z0w hd rfl 0 rfl rfl))
  by_cases hc:k < i.i.pas.length
  ·rw[dTt (by omega),z06] at e29;have e34:a.eval (.tmp 60)=.bool pa:=(h.at_ 34 _ rfl (z0w hd rfl 1 rfl rfl)).trans (if_pos hc);rw[z06] at e34;clear h hc hd hl C;go_simp
   exact hK.out _ _ bQ rfl
  ·rw[dFf (by omega),z06] at e29;have hcl:=C.n4 hc;clear h hc hd hl C;go_simp
   exact hK.out _ _ bQ (by rw[hcl];rfl)
theorem k0h {j:Nat} (C:CxN v u i k B rv x cl pa ca em b2 o2 bS oS bC oC bP oP W) (h:IvN v u i k B rv x cl pa ca em b2 o2 bS oS bC oC bP oP W listed a w) (hd:∀ o,y6m[j]? = some o→∀ e∈o.after,Region.binds .any e=true→listed[e.on]? = some true) (hl:listed[j]? = some false) (h1:36≤j) (h2:j < 48):wpOp Tryz.prog y6m Q j (fun a' w'=>IvN v u i k B rv x cl pa ca em b2 o2 bS oS bC oC bP oP W (listed.setIfInBounds j true) a' w') a w:=by
 have hc:j=36∨j=37∨j=38∨j=39∨j=40∨j=41∨j=42∨j=43∨j=44∨j=45∨j=46∨j=47:=by omega
 clear h1 h2;rcases hc with rfl | rfl | rfl | rfl | rfl | rfl | rfl | rfl | rfl | rfl | rfl | rfl
 ·refine stN rfl (by decide) h fun K hK=>?_
  have t6:=h.t6;rw[z06] at t6;clear h hd hl C;go_simp
  exact hK.out _ _ bQ rfl
 ·refine stN rfl (by decide) h fun K hK=>?_
  have e36:a.eval (.tmp 62)=.pointer (some ⟨B+1+1,6,none⟩):=(h.at_ 36 _ rfl (z0w hd rfl 0 rfl rfl))
  rw[z06] at e36;have ld:=(C.x2.now h.bel).cell 6;simp only[gqA,gqZ,gqS] at ld;have hlt:=(C.x2.now h.bel).lt;clear h hd hl C;go_simp
  exact hK.out _ _ bQ rfl
 ·refine stN rfl (by decide) h fun K hK=>?_
  have t3:=h.t3;rw[z06] at t3;clear h hd hl C;go_simp
  exact hK.out _ _ bQ rfl
 ·refine stN rfl (by decide) h fun K hK=>?_
  have e37:a.eval (.tmp 63)=.slice i.A7 i.i.cans.length i.c7:=(h.at_ 37 _ rfl (z0w hd rfl 0 rfl rfl))
  rw[z06] at e37;have e38:a.eval (.tmp 64)=.int .i64 (k:Int):=(h.at_ 38 _ rfl (z0w hd rfl 1 rfl rfl))
  rw[z06] at e38;have HC:=hE (C.ca w h.bel);clear h hd hl C;go_simp
  refine HC.out.mono ?_;rintro e w2 ⟨rfl,rfl⟩;exact hK.out _ _ bQ rfl
 ·refine stN rfl (by decide) h fun K hK=>?_
  have t4:=h.t4;rw[z06] at t4;have ld:=z0c (C.x0.now h.bel) 5 rfl;have hlt:=(C.x0.now h.bel).lt;clear h hd hl C;go_simp
  exact hK.out _ _ bQ rfl
 ·refine stN rfl (by decide) h fun K hK=>?_
  have t5:=h.t5;rw[z06] at t5;have ld:=z0c (C.x1.now h.bel) 2 rfl;have hlt:=(C.x1.now h.bel).lt;clear h hd hl C;go_simp
  exact hK.out _ _ bQ rfl
 ·refine stN rfl (by decide) h fun K hK=>?_
  have t6:=h.t6;rw[z06] at t6;have ld:=z0c (C.x2.now h.bel) 7 rfl;have hlt:=(C.x2.now h.bel).lt;clear h hd hl C;go_simp
  exact hK.out _ _ bQ rfl
 ·refine stN rfl (by decide) h fun K hK=>?_
  have t3:=h.t3;rw[z06] at t3;clear h hd hl C;go_simp
  exact hK.out _ _ bQ rfl
 ·refine stN rfl (by decide) h fun K hK=>?_
  have e40:a.eval (.tmp 66)=.agg (z0t v):=(h.at_ 40 _ rfl (z0w hd rfl 0 rfl rfl))
  rw[z06] at e40;have e41:a.eval (.tmp 67)=.agg (z1v u):=(h.at_ 41 _ rfl (z0w hd rfl 1 rfl rfl))
  rw[z06] at e41;have e42:a.eval (.tmp 68)=.agg (z3t i):=(h.at_ 42 _ rfl (z0w hd rfl 2 rfl rfl))
  rw[z06] at e42;have e43:a.eval (.tmp 69)=.int .i64 (k:Int):=(h.at_ 43 _ rfl (z0w hd rfl 3 rfl rfl))
  rw[z06] at e43;have HC:=hE (C.em w h.bel);clear h hd hl C;go_simp
  refine HC.out.mono ?_;rintro e w2 ⟨rfl,hb⟩;exact hK.out _ _ hb rfl
 ·refine stN rfl (by decide) h fun K hK=>?_
  have e0:a.eval (.tmp 26)=.agg (z0t v):=(h.at_ 0 _ rfl (z0w hd rfl 0 rfl rfl))
  rw[z06] at e0;have e1:a.eval (.tmp 27)=.agg (z3t i):=(h.at_ 1 _ rfl (z0w hd rfl 1 rfl rfl))
  rw[z06] at e1;have e6:a.eval (.tmp 32)=.agg (z0e rv):=(h.at_ 6 _ rfl (z0w hd rfl 2 rfl rfl))
  rw[z06] at e6;have e11:a.eval (.tmp 37)=.agg #[.int .i64 x.st,.int .i64 x.rel,.int .i64 x.tim]:=(h.at_ 11 _ rfl (z0w hd rfl 3 rfl rfl))
  rw[z06] at e11;have e23:a.eval (.tmp 49)=.bool cl:=(h.at_ 23 _ rfl (z0w hd rfl 4 rfl rfl))
  rw[z06] at e23;have e35:a.eval (.tmp 61)=.bool pa:=(h.at_ 35 _ rfl (z0w hd rfl 5 rfl rfl))
  rw[z06] at e35;have e39:a.eval (.tmp 65)=.bool ca:=(h.at_ 39 _ rfl (z0w hd rfl 6 rfl rfl))
  rw[z06] at e39;have e44:a.eval (.tmp 70)=.bool em:=(h.at_ 44 _ rfl (z0w hd rfl 7 rfl rfl))
  rw[z06] at e44;clear h hd hl C;go_simp
  exact hK.out _ _ bQ rfl
 ·have hq:=h.made hl;clear h hd hl C;obtain ⟨K,hK⟩:∃ K:Act→World→Prop,K=fun a' w'=>IvN v u i k B rv x cl pa ca em b2 o2 bS oS bC oC bP oP W (listed.setIfInBounds 46 true) a' w':=⟨_,rfl⟩
  have hK2:=hE (show K _ _ by rw[hK];exact hq);rw[←hK];clear hq hK;refine z4r (o:=.mk (some 9) (.alloc 125) 0 "progress.go:65" #[] none) rfl ?_;go_simp
  exact hK2.out
 ·have e45:a.eval (.tmp 71)=.agg #[.slice v.A1 v.t.rts.length v.c1,.slice v.A2 v.t.pts.length v.c2,.slice v.A3 v.t.homes.length v.c3,.int .i64 v.t.nsec,.int .i64 v.t.nsig,.slice i.A1 i.i.occ.length i.c1,.slice i.A2 i.i.det.length i.c2,.slice i.A3 i.i.clo.length i.c3,.slice i.A4 i.i.cla.length i.c4,.slice i.A5 i.i.pas.length i.c5,.slice i.A6 i.i.calls.length i.c6,.slice i.A7 i.i.cans.length i.c7,.string (bs rv.r.name),.int .i64 rv.r.ent,.int .i64 rv.r.ext,.slice rv.A1 rv.r.path.length rv.c1,.slice rv.A2 rv.r.pts.length rv.c2,.slice rv.A3 rv.r.secs.length rv.c3,.int .i64 rv.r.app,.int .i64 rv.r.len,.slice rv.A4 rv.r.over.length rv.c4,.slice rv.A5 rv.r.opts.length rv.c5,.slice rv.A6 rv.r.osecs.length rv.c6,.slice rv.A7 rv.r.flk.length rv.c7,.slice rv.A8 rv.r.grd.length rv.c8,.slice rv.A9 rv.r.gap.length rv.c9,.int .i64 x.st,.int .i64 x.rel,.int .i64 x.tim,.bool cl,.bool pa,.bool ca,.bool em]:=(h.at_ 45 _ rfl (z0w hd rfl 1 rfl rfl))
  have h46:listed[46]? = some true:=z0w hd rfl 0 rfl rfl;obtain ⟨g,e9,hg,hz,-⟩:=h.al h46;have hbk:=hz hl;refine z4r (o:=.mk none (.store 125 (.tmp 9) (.tmp 71)) _ _ _ _) rfl ?_;exact z1b rfl _ _ _ rfl g #[.slice v.A1 v.t.rts.length v.c1,.slice v.A2 v.t.pts.length v.c2,.slice v.A3 v.t.homes.length v.c3,.int .i64 v.t.nsec,.int .i64 v.t.nsig,.slice i.A1 i.i.occ.length i.c1,.slice i.A2 i.i.det.length i.c2,.slice i.A3 i.i.clo.length i.c3,.slice i.A4 i.i.cla.length i.c4,.slice i.A5 i.i.pas.length i.c5,.slice i.A6 i.i.calls.length i.c6,.slice i.A7 i.i.cans.length i.c7,.string (bs rv.r.name),.int .i64 rv.r.ent,.int .i64 rv.r.ext,.slice rv.A1 rv.r.path.length rv.c1,.slice rv.A2 rv.r.pts.length rv.c2,.slice rv.A3 rv.r.secs.length rv.c3,.int .i64 rv.r.app,.int .i64 rv.r.len,.slice rv.A4 rv.r.over.length rv.c4,.slice rv.A5 rv.r.opts.length rv.c5,.slice rv.A6 rv.r.osecs.length rv.c6,.slice rv.A7 rv.r.flk.length rv.c7,.slice rv.A8 rv.r.grd.length rv.c8,.slice rv.A9 rv.r.gap.length rv.c9,.int .i64 x.st,.int .i64 x.rel,.int .i64 x.tim,.bool cl,.bool pa,.bool ca,.bool em] e9 e45 125 #[.slice none 0 0,.slice none 0 0,.slice none 0 0,.int .i64 0,.int .i64 0,.slice none 0 0,.slice none 0 0,.slice none 0 0,.slice none 0 0,.slice none 0 0,.slice none 0 0,.slice none 0 0,.string (ByteArray.mk #[]),.int .i64 0,.int .i64 0,.slice none 0 0,.slice none 0 0,.slice none 0 0,.int .i64 0,.int .i64 0,.slice none 0 0,.slice none 0 0,.slice none 0 0,.slice none 0 0,.slice none 0 0,.slice none 0 0,.int .i64 0,.int .i64 0,.int .i64 0,.bool false,.bool false,.bool false,.bool false] hbk (by kernel_rfl) rfl (by simp[Value.oneCell']) (h.stored h46 e9 hg hbk)
end
theorem nextR {Q:Exit→Act→World→Prop} {id:Nat} {a:Act} {W:World} (v:z1w) (u:z1r) (i:z3n) (k B:Nat) (rv:z2v) (x:RSt) (cl pa ca em:Bool) (b2 o2 bS oS bC oC bP oP:Nat) (C:CxN v u i k B rv x cl pa ca em b2 o2 bS oS bC oC bP oP W) (h0:IvN v u i k B rv x cl pa ca em b2 o2 bS oS bC oC bP oP W (Array.replicate 48 false) a W.drew)
  (hend:∀ a w,IvN v u i k B rv x cl pa ca em b2 o2 bS oS bC oC bP oP W (Array.replicate 48 true) a w→Q .normal a w):(Code.region id y6m true).wp Tryz.prog Q a W:=by
 refine y4o (by kernel_rfl) (by kernel_rfl) (IvN v u i k B rv x cl pa ca em b2 o2 bS oS bC oC bP oP W) h0 (fun listed a w h=>h.sz) ?_ ?_
 ·intro listed a w1 j hI hi hl hd;by_cases h1:j < 12
  ·exact k0e C hI hd hl nZ h1
  by_cases h2:j < 24
  ·exact k0f C hI hd hl (by omega) h2
  by_cases h3:j < 36
  ·exact k0g C hI hd hl (by omega) h3
  ·exact k0h C hI hd hl (by omega) hi
 ·intro listed a w1 hI hall;have:listed=Array.replicate 48 true:=by
   have hs:=hI.sz;apply Array.ext
   ·simp[hs]
   ·intro j h1 h2;have:=hall j (by rw[hs] at h1;exact h1);rw[agE h1] at this;simpa using sJ this
  subst this;exact hend a w1 hI
end Go.Proofs.YtpenlfedkacglaaGreatDoor
