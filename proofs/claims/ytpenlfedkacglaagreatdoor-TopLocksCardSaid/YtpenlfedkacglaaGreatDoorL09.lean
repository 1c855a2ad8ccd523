import Derived.Test.YtpenlfedkacglaaGreatDoorL08
import Derived.ChangeKeysEq
set_option maxRecDepth 100000
set_option maxHeartbeats 40000000
set_option linter.all false
namespace Go.Proofs.YtpenlfedkacglaaGreatDoor
open Go.RowKit
def z2l {α:Type} (c:Cod α) (w:World) (base:Nat) (S:Nat→Prop) (e:TypeId) (v:Value) (l:List α):Prop:=∃ xs,w.ownsRow base e c.size v l.length xs∧RdC c w S xs l∧base≤w.heap.size
theorem z2l.same {α:Type} {c:Cod α} {w w':World} {base:Nat} {S:Nat→Prop} {e:TypeId} {v:Value} {l:List α} (h:z2l c w base S e v l) (hs:∀ b,v.ownBlock=some b→w'.heap[b]? = w.heap[b]?) (hk:∀ b,S b→w'.heap[b]? = w.heap[b]?) (hz:w.heap.size≤w'.heap.size):z2l c w' base S e v l:=by
 obtain ⟨xs,h1,h2,h3⟩:=h;refine ⟨xs,⟨h1.1,?_⟩,h2.keep fun p hp=>z0k (hk p.block hp),nR h3 hz⟩;rcases h1.2 with h | ⟨g,cap,cur,hv,hb,hg,h4⟩
 ·exact Or.inl h
 ·exact Or.inr ⟨g,cap,cur,hv,hb,(hs g (by rw[hv];rfl)).trans hg,h4⟩
theorem z2l.lt {α:Type} {c:Cod α} {w:World} {base:Nat} {S:Nat→Prop} {e:TypeId} {v:Value} {l:List α} (h:z2l c w base S e v l):∀ b,v.ownBlock=some b→base≤b∧b < w.heap.size:=by
 obtain ⟨xs,h1,_⟩:=h;exact fun b hb=>World.ownsRow.lt h1 b hb
theorem z2l.form {α:Type} {c:Cod α} {w:World} {base:Nat} {S:Nat→Prop} {e:TypeId} {v:Value} {l:List α} (h:z2l c w base S e v l):∃ A cap,v=.slice A l.length cap:=by
 obtain ⟨xs,h1,_⟩:=h;rcases h1.2 with ⟨hv,h0⟩ | ⟨g',cap,cur,hv,_⟩
 ·exact ⟨none,0,by rw[hv,h0]⟩
 ·exact ⟨_,_,hv⟩
theorem x3p {w w':World} {base b:Nat} {e T:TypeId} {cs:Array Value} (hf:Frm base e w w') (h:w.heap[b]? = some (.cells cs T (0,0))) (hT:T≠e):w'.heap[b]? = w.heap[b]?:=(hf.obj b _ h fun cs' fr hx=>by simp only[Obj.cells.injEq] at hx;exact hT hx.2.1).trans h.symm
theorem z2l.ne {α:Type} {c:Cod α} {w:World} {base g:Nat} {S:Nat→Prop} {e T:TypeId} {cs:Array Value} {v:Value} {l:List α} (h:z2l c w base S e v l) (hg:Blk w g T cs) (hT:e≠T):∀ b,v.ownBlock=some b→b≠g:=by
 obtain ⟨xs,h1,_⟩:=h;rintro b hb rfl;rcases h1.2 with ⟨hv,_⟩ | ⟨g',cap,cur,hv,_,hg',_⟩
 ·subst hv;cases hb
 ·subst hv;obtain rfl:g' = b:=sJ hb;have:=hg'.symm.trans hg;simp only[qE,Obj.cells.injEq] at this;exact hT this.2.1
theorem z2l.obj {α:Type} {c:Cod α} {w:World} {base:Nat} {S:Nat→Prop} {e:TypeId} {v:Value} {l:List α} (h:z2l c w base S e v l):∀ b,v.ownBlock=some b→∃ cs,w.heap[b]? = some (.cells cs e (0,0)):=by
 obtain ⟨xs,h1,_⟩:=h;intro b hb;rcases h1.2 with ⟨hv,_⟩ | ⟨g',cap,cur,hv,_,hg',_⟩
 ·subst hv;cases hb
 ·subst hv;obtain rfl:g' = b:=sJ hb;exact ⟨cur,hg'⟩
theorem z2l.more {α:Type} {c:Cod α} {w:World} {base:Nat} {S S':Nat→Prop} {e:TypeId} {v:Value} {l:List α} (h:z2l c w base S e v l) (hS:∀ b,S b→S' b):z2l c w base S' e v l:=by
 obtain ⟨xs,h1,h2,h3⟩:=h;exact ⟨xs,h1,h2.more hS,h3⟩
theorem z2l.rds {α:Type} {c:Cod α} {w:World} {base:Nat} {S S':Nat→Prop} {e:TypeId} {v:Value} {l:List α} (h:z2l c w base S e v l) (hS:∀ b,S b→S' b) (hr:∀ b,v.ownBlock=some b→S' b):∃ A cap,v=.slice A l.length cap∧(l.length≤maxLen∧l.length≤cap)∧RdS c w S' A l:=by
 obtain ⟨xs,h1,h2,h3⟩:=h;rcases h1.2 with ⟨rfl,h0⟩ | ⟨g,cap,cur,rfl,hb,hg,hcap,hm,htake⟩
 ·exact ⟨none,0,by rw[h0],by omega,fun hl=>by omega⟩
 ·refine ⟨_,_,rfl,⟨nR hcap hm,hcap⟩,fun _=>⟨g,0,rfl,hr g rfl,fun i x hx=>?_⟩⟩;obtain ⟨ys,h4,h5⟩:=h2.get hx;refine ⟨ys,c.more h4 hS,fun j u hu=>?_⟩;have h6:=h5 j u hu;rw[Nat.zero_add,cell_of_row w g _ cur e (0,0) hg];rw[←htake.2,List.getElem?_take] at h6;split at h6
  ·simpa using h6
  ·cases h6
theorem z09.ne {α:Type} {c:Cod α} {w:World} {base g B:Nat} {e T:TypeId} {cs:Array Value} {v:Value} {l:List α} (h:z09 c w base e v l B) (hg:Blk w g T cs) (hT:e≠T):∀ b,v.ownBlock=some b→b≠g:=by
 obtain ⟨xs,h1,_⟩:=h;rintro b hb rfl;rcases h1.2 with ⟨hv,_⟩ | ⟨g',cap,cur,hv,_,hg',_⟩
 ·subst hv;cases hb
 ·subst hv;obtain rfl:g' = b:=sJ hb;have:=hg'.symm.trans hg;simp only[qE,Obj.cells.injEq] at this;exact hT this.2.1
theorem z2l.now {α:Type} {c:Cod α} {w w':World} {base:Nat} {S:Nat→Prop} {e:TypeId} {v:Value} {l:List α} (h:z2l c w base S e v l) (hS:∀ b,S b→b < w.heap.size) (hb:Below w.heap.size w w'):z2l c w' base S e v l:=
 h.same (fun b hb2=>hb.block b (h.lt b hb2).2) (fun b hb2=>hb.block b (hS b hb2)) hb.size
section
variable {P:Program} {α:Type} {c:Cod α}
theorem y0n (w:World) (base:Nat) (t ty e:TypeId) (i:TypeInfo) (z:Value) (bytes:Nat) (ht:P.underlying t=some (.slice e)) (hi:P.info? e=some i) (hz:i.zero=some z) (hsize:i.size=c.size) (hby:i.bytes=bytes) (hzs:z.cells.size=c.size) (hc:0 < c.size)
  (S:Nat→Prop) (v:Value) (l:List α) (hown:z2l c w base S e v l) (hS:∀ b,S b→b < w.heap.size∧v.ownBlock≠some b) (ys:List Value) (y:α) (hy:c.rd w S ys y) (h1:∀ u∈ys,u.oneCell' = true) (ad:Addr) (k:Nat)
  (h4:∀ (j:Nat) (u:Value),ys[j]? = some u→w.cell? (ad.add j)=some u) (hlen:l.length≤100000) (hbl:bytes≤1000) :
  ∃ v' w',(Builtin.append_ #[t,t] ty #[v,.slice (some ad) 1 k]).run P w=.ok v' w'∧z2l c w' base S e v' (l++[y])∧Frm base e w w'∧w.grownBy w' v.ownBlock:=by
 have hyl:=c.len hy;obtain ⟨xs,h5,h6,hbase⟩:=hown;obtain ⟨v',w',hrun,h7,h8,_⟩:=z6z (P:=P) w base t ty e i z c.size bytes ht hi hz hsize hby hzs hc v l.length xs h5 ad 1 k ys (by omega) h4 h1
  (by unfold maxLen;omega) (nR (Nat.mul_le_mul (show l.length+1≤1000000 by omega) hbl) (by omega)) hbase
 have hf:=y2g h5 h8;have key:RdC c w S (xs++ys) (l++[y]):=h6.snoc hy;exact ⟨v',w',hrun,⟨xs++ys,by rw[qL];exact h7,key.keep fun p hp=>z0k (h8.block p.block (hS _ hp).1 fun he=>(hS _ hp).2 he.symm),nR hbase hf.size⟩,hf,h8⟩
theorem z0b {w:World} {ops:Array Oper} {o:Oper} {a:Act} {K:Act→World→Prop} {Q:Exit→Act→World→Prop} {E:Prop} (hgd:o.guard=none) (s x:Operand) (t:TypeId)
  (ho:o.op=.call { callee:=.builtin .append,args:=#[s,x],argTypes:=#[t,t] })
  (base:Nat) (e:TypeId) (i:TypeInfo) (z:Value) (bytes:Nat) (ht:P.underlying t=some (.slice e)) (hi:P.info? e=some i) (hz:i.zero=some z) (hsize:i.size=c.size) (hby:i.bytes=bytes) (hzs:z.cells.size=c.size) (hc:0 < c.size)
  (S:Nat→Prop) (v:Value) (l:List α) (hs:a.eval s=v) (hown:z2l c w base S e v l) (hS:∀ b,S b→b < w.heap.size∧v.ownBlock≠some b) (ys:List Value) (y:α) (hy:c.rd w S ys y) (h1:∀ u∈ys,u.oneCell' = true) (ad:Addr) (k:Nat)
  (hx:a.eval x=.slice (some ad) 1 k) (h4:∀ (j:Nat) (u:Value),ys[j]? = some u→w.cell? (ad.add j)=some u) (hlen:l.length≤100000) (hbl:bytes≤1000)
  (h:∀ v' w',z2l c w' base S e v' (l++[y])→Frm base e w w'→w.grownBy w' v.ownBlock→K (a.put o.dst v') w'):if Region.wanted o (yielded ops a.tmps)=true then Oper.wp P o a w K Q else E:=by
 have hw:Region.wanted o (yielded ops a.tmps)=true:=by simp[Region.wanted,hgd]
 rw[if_pos hw];obtain ⟨v',w',hrun,h5,h6,h7⟩:=y0n (P:=P) (c:=c) w base t o.type e i z bytes ht hi hz hsize hby hzs hc S v l hown hS ys y hy h1 ad k h4 hlen hbl;unfold Oper.wp execOp;simp only[ho,resolve,invoke,builtin,Sem.run_bind,Sem.run_pure,Result.andThen_ok,List.map_toArray,List.map_cons,List.map_nil,hs,hx,hrun];exact h v' w' h5 h6 h7
end
def InP (w:World) (gf B:Nat):Nat→Prop:=fun b=>gf < b∧b < B∧∃ cs,w.heap[b]? = some (.cells cs 85 (0,0))
def z1y (w:World) (gf B:Nat) (v:LV) (ps:List (List Stp)):Prop:=∃ pv,FdB w gf v pv∧z2l (cL z1h) w (gf+1) (InP w gf B) 52 pv ps∧B≤w.heap.size
theorem z1y.keep {w w':World} {gf B:Nat} {v:LV} {ps:List (List Stp)} (h:z1y w gf B v ps) (hz:w.heap.size≤w'.heap.size) (hg:w'.heap[gf]? = w.heap[gf]?) (hi:∀ b,InP w gf B b→w'.heap[b]? = w.heap[b]?) (ho:∀ b cs,gf < b→w.heap[b]? = some (.cells cs 52 (0,0))→w'.heap[b]? = w.heap[b]?):z1y w' gf B v ps:=by
 obtain ⟨pv,h1,h2,h3⟩:=h;refine ⟨pv,?_,(h2.same (fun b hb=>?_) hi hz).more fun b hb=>⟨hb.1,hb.2.1,by rw[hi b hb];exact hb.2.2⟩,nR h3 hz⟩
 ·unfold FdB Blk at *;rw[hg];exact h1
 ·obtain ⟨cs,hcs⟩:=h2.obj b hb;exact ho b cs (h2.lt b hb).1 hcs
theorem z1y.lt {w:World} {gf B:Nat} {v:LV} {ps:List (List Stp)} (h:z1y w gf B v ps):gf < w.heap.size:=by
 obtain ⟨pv,h1,_⟩:=h;exact Blk.lt h1
theorem z1y.now {w w':World} {gf B:Nat} {v:LV} {ps:List (List Stp)} (h:z1y w gf B v ps) (hb:Below w.heap.size w w'):z1y w' gf B v ps:=
 have hl:=h.lt;have hB:B≤w.heap.size:=by obtain ⟨_,_,_,h3⟩:=h;exact h3
 h.keep hb.size (hb.block _ hl) (fun b hi=>hb.block b (by have:=hi.2.1;omega)) (fun b cs _ hc=>hb.block b (z0j hc))
theorem z1y.raise {w:World} {gf B B':Nat} {v:LV} {ps:List (List Stp)} (h:z1y w gf B v ps) (hB:B≤B') (hw:B'≤w.heap.size):z1y w gf B' v ps:=by
 obtain ⟨pv,h1,h2,h3⟩:=h;exact ⟨pv,h1,h2.more fun b hb=>⟨hb.1,by have:=hb.2.1;omega,hb.2.2⟩,hw⟩
theorem z1y.app {w w':World} {gf B base:Nat} {v:LV} {ps:List (List Stp)} (h:z1y w gf B v ps) {l l':List Stp} {x x':Value} {N:Nat} (ho:z09 z1h w base 85 x l N) (hq:x2b z1h w w' base 85 x x' l') (h1:gf < base) (h2:B≤base):z1y w' gf B v ps:=by
 have hlt:∀ b,x.ownBlock=some b→base≤b:=fun b hb=>by
  obtain ⟨xs,h1,_⟩:=ho;exact (World.ownsRow.lt h1 b hb).1
 have hB:B≤w.heap.size:=by obtain ⟨_,_,_,h3⟩:=h;exact h3
 refine h.keep hq.frm.size (hq.other h.lt fun he=>?_) (fun b hi=>hq.other (by have:=hi.2.1;omega) fun he=>?_) (fun b cs hb hc=>hq.other (z0j hc) fun he=>?_)
 ·have:=hlt _ he;omega
 ·have:=hlt _ he;have:=hi.2.1;omega
 ·exact ho.ne (g:=b) (T:=52) (cs:=cs) hc (by decide) b he rfl
structure FrF (gf B:Nat) (w w':World):Prop where
 os:w'.os=w.os
 tape:w'.tape=w.tape
 output:w'.output=w.output
 size:w.heap.size≤w'.heap.size
 low:∀ k,k < gf→k < w.heap.size→w'.heap[k]? = w.heap[k]?
 obj:∀ k,gf < k→k < B→k < w.heap.size→(∀ cs fr,w.heap[k]?≠some (.cells cs 52 fr))→w'.heap[k]? = w.heap[k]?
theorem FrF.refl (gf B:Nat) (w:World):FrF gf B w w:=⟨rfl,rfl,rfl,nL,fun _ _ _=>rfl,fun _ _ _ _ _=>rfl⟩
theorem FrF.trans {gf B:Nat} {u v w:World} (h:FrF gf B u v) (k:FrF gf B v w):FrF gf B u w:=
 ⟨k.os.trans h.os,k.tape.trans h.tape,k.output.trans h.output,nR h.size k.size,fun i h1 h2=>(k.low i h1 (nT h2 h.size)).trans (h.low i h1 h2),fun i h1 h2 h3 h4=>(k.obj i h1 h2 (nT h3 h.size) (by rw[h.obj i h1 h2 h3 h4];exact h4)).trans (h.obj i h1 h2 h3 h4)⟩
theorem FrF.less {gf B B':Nat} {w w':World} (h:FrF gf B w w') (hB:B'≤B):FrF gf B' w w':=⟨h.os,h.tape,h.output,h.size,h.low,fun k h1 h2=>h.obj k h1 (by omega)⟩
theorem FrF.of_below {gf B:Nat} {w w':World} (h:Below w.heap.size w w'):FrF gf B w w':=⟨h.os,h.tape,h.output,h.size,fun k _ hk=>h.block k hk,fun k _ _ hk _=>h.block k hk⟩
theorem FrF.below {gf B N:Nat} {w0 w w':World} (h:FrF gf B w w') (hN:N≤gf) (hw:N≤w.heap.size) (hb:Below N w0 w):Below N w0 w':=
 hb.trans ⟨h.os,h.tape,h.output,h.size,fun k hk=>h.low k (by omega) (by omega)⟩
theorem FrF.blk {gf B g:Nat} {T:TypeId} {cs:Array Value} {w w':World} (h:FrF gf B w w') (hg:gf < g) (hB:g < B) (hT:T≠52) (hb:Blk w g T cs):Blk w' g T cs:=
 (h.obj g hg hB (Blk.lt hb) fun cs' fr he=>by rw[hb] at he;simp only[qE,Obj.cells.injEq] at he;exact hT he.2.1).trans hb
theorem RdC.x0n {α:Type} {c:Cod α} (hc:Flat c) {w w':World} {S S':Nat→Prop}:∀ {l:List α} {xs:List Value},RdC c w S xs l→RdC c w' S' xs l
 | [],_,h=>h
 | _::_,_,⟨y,z,h1,h2,h3⟩=>⟨y,z,h1,hc _ _ _ _ _ _ h2,RdC.x0n hc h3⟩
theorem FrF.own {gf B base N:Nat} {w w':World} {x:Value} {l:List Stp} (h:FrF gf B w w') (hg:gf < base) (hB:∀ b,x.ownBlock=some b→b < B) (ho:z09 z1h w base 85 x l N):z09 z1h w' base 85 x l 0:=by
 obtain ⟨xs,h1,h2,h3⟩:=ho;refine ⟨xs,⟨h1.1,?_⟩,h2.x0n z4b,nZ⟩;rcases h1.2 with h4 | ⟨g,cap,cur,rfl,h4,h5,h6⟩
 ·exact Or.inl h4
 ·exact Or.inr ⟨g,cap,cur,rfl,h4,h.blk (T:=85) (by omega) (hB g rfl) (by decide) h5,h6⟩
theorem FrF.app {gf base:Nat} {w w':World} {l l':List Stp} {x x':Value} {N:Nat} (ho:z09 z1h w base 85 x l N) (hq:x2b z1h w w' base 85 x x' l') (h1:gf < base):FrF gf base w w':=
 ⟨hq.frm.os,hq.frm.tape,hq.frm.output,hq.frm.size,fun k hk hw=>hq.frm.low k (by omega) hw,fun k _ hk hw _=>hq.frm.low k hk hw⟩
theorem FrF.set {gf B g j:Nat} {w w':World} {u:Value} (h:FrF gf B w w') (hg:B≤g) (hl:gf < g):FrF gf B w (w'.setCell ⟨g,j,none⟩ u):=
 ⟨h.os,h.tape,h.output,by simp[World.setCell];exact h.size,fun k hk hw=>(Below.heap_setCell _ _ _ _ (show k≠g by omega)).trans (h.low k hk hw),fun k h1 h2 h3 h4=>(Below.heap_setCell _ _ _ _ (show k≠g by omega)).trans (h.obj k h1 h2 h3 h4)⟩
theorem y94 {w:World} {a b:Nat} {T U:TypeId} {cs ds:Array Value} (h1:w.heap[a]? = some (.cells cs T (0,0))) (h2:w.heap[b]? = some (.cells ds U (0,0))) (hT:T≠U):a≠b:=by
 rintro rfl;rw[h1] at h2;simp only[qE,Obj.cells.injEq] at h2;exact hT h2.2.1
theorem z1y.set {w:World} {gf B g j:Nat} {v:LV} {ps:List (List Stp)} {u:Value} {T:TypeId} {cs:Array Value} (h:z1y w gf B v ps) (hg:Blk w g T cs) (h1:141≠T) (h2:52≠T) (h3:85≠T):z1y (w.setCell ⟨g,j,none⟩ u) gf B v ps:=by
 have hfd:∃ pv,FdB w gf v pv:=by obtain ⟨pv,h,_⟩:=h;exact ⟨pv,h⟩
 obtain ⟨pv,hfd⟩:=hfd;refine h.keep (by simp[World.setCell]) (Below.heap_setCell _ _ _ _ (y94 hfd hg h1)) (fun b hb=>?_) (fun b cs' _ hc=>Below.heap_setCell _ _ _ _ (y94 hc hg h2));obtain ⟨_,_,cs',hc⟩:=hb;exact Below.heap_setCell _ _ _ _ (y94 hc hg h3)
theorem z3o {w w':World} {gf B:Nat} {pv:Value} {ps:List (List Stp)} (h:z2l (cL z1h) w (gf+1) (InP w gf B) 52 pv ps) (hB:B≤w.heap.size) (hb:Below w.heap.size w w'):z2l (cL z1h) w' (gf+1) (InP w' gf w'.heap.size) 52 pv ps:=
 (h.same (fun b he=>hb.block b (h.lt b he).2) (fun b hi=>hb.block b (by have:=hi.2.1;omega)) hb.size).more fun b hi=>⟨hi.1,nT hi.2.1 (nR hB hb.size),by rw[hb.block b (by have:=hi.2.1;omega)];exact hi.2.2⟩
theorem z2p {w:World} {gf B:Nat} {pv:Value} {ps:List (List Stp)} (h:z2l (cL z1h) w (gf+1) (InP w gf B) 52 pv ps) (hB:B≤w.heap.size):∀ b,InP w gf B b→b < w.heap.size∧pv.ownBlock≠some b:=fun b hi=>⟨by have:=hi.2.1;omega,fun he=>by
 obtain ⟨cs,hcs⟩:=h.obj b he;obtain ⟨_,_,ds,hds⟩:=hi;exact y94 hcs hds (by decide) rfl⟩
theorem z1y.put {w w':World} {gf:Nat} {v:LV} {pv pv':Value} {l:List (List Stp)} (hfd:FdB w gf v pv) (hl:z2l (cL z1h) w' (gf+1) (InP w gf w.heap.size) 52 pv' l) (hf:Frm (gf+1) 52 w w'):z1y (w'.setCell ⟨gf,6,none⟩ pv') gf (w'.setCell ⟨gf,6,none⟩ pv').heap.size v l∧FrF gf w.heap.size w (w'.setCell ⟨gf,6,none⟩ pv'):=by
 have hz:(w'.setCell ⟨gf,6,none⟩ pv').heap.size=w'.heap.size:=by simp[World.setCell]
 have hb7:Blk w' gf 141 #[.string (bs v.l.name),.slice v.A1 v.l.secs.length v.c1,.slice v.A2 v.l.els.length v.c2,.slice v.A3 v.l.jts.length v.c3,.slice v.A4 v.l.sgs.length v.c4,.slice v.A5 v.l.bls.length v.c5,pv]:=hf.blk hfd (by decide);have hs:∀ b,b≠gf→(w'.setCell ⟨gf,6,none⟩ pv').heap[b]? = w'.heap[b]?:=fun b hb=>Below.heap_setCell _ _ _ _ hb
 have hi:∀ b,InP w gf w.heap.size b→(w'.setCell ⟨gf,6,none⟩ pv').heap[b]? = w.heap[b]?∧(w'.setCell ⟨gf,6,none⟩ pv').heap[b]? = w'.heap[b]?:=fun b hb=>by
  have h1:=hs b (by have:=hb.1;omega);obtain ⟨_,_,cs,hc⟩:=hb;exact ⟨h1.trans (x3p hf hc (by decide)),h1⟩
 refine ⟨⟨pv',hb7.set 6 pv',(hl.same (fun b hb=>hs b (by have:=(hl.lt b hb).1;omega)) (fun b hb=>(hi b hb).2) (Nat.le_of_eq hz.symm)).more fun b hb=>⟨hb.1,by have:=hb.2.1;have:=hf.size;omega,by rw[(hi b hb).1];exact hb.2.2⟩,nL⟩,hf.os,hf.tape,hf.output,by rw[hz];exact hf.size,fun k hk hw=>(hs k (by omega)).trans (hf.low k (by omega) hw),fun k h1 h2 h3 h4=>(hs k (by omega)).trans ?_⟩;have ho:w.heap[k]? = some w.heap[k]:=agE h3;rw[hf.obj k _ ho fun cs fr hx=>h4 cs fr (by rw[ho,hx]),ho]
end Go.Proofs.YtpenlfedkacglaaGreatDoor
namespace Go.Proofs.YtpenlfedkacglaaGreatDoor
open Go.RowKit Go.Sort
attribute [local go_sem] z05 z07 z01 z02
attribute [-go_sem] run_equalIn_agg
theorem z4z (l:List Int) (x:Int) (A:Option Addr) (cap:Nat) (w:World) (hr:RdS cI w (Lt w) A l) (hl:l.length≤maxLen):Calls Tryz.prog 63 #[.slice A l.length cap,.int .i64 x] w fun e w'=>e=.returned (.bool (decide (x∈l)))∧w' = w:=by
 by_cases h0:0 < l.length
 ·have hr2:=hr;obtain ⟨b,off,rfl,hb,-⟩:=hr2 h0;refine (Tryz.slices_Contains_int b off l.length cap l x w nL (by unfold maxLen at hl;omega) (fun j hj=>?_)).mono ?_
  ·obtain ⟨b',off',hA,-,-,y0⟩:=hr.elI hj;simp only[qE,Addr.mk.injEq,and_true] at hA;obtain ⟨rfl,rfl⟩:=hA;rw[y0];simp[List.getD,hj]
  ·rintro e w' ⟨rfl,rfl⟩;refine ⟨z0a ?_,rfl⟩;rw[List.take_length,Bool.eq_iff_iff];simp
 ·obtain rfl:l=[]:=List.eq_nil_of_length_eq_zero (by omega);refine (Tryz.slices_Contains_int_empty A cap x w).mono ?_;rintro e w' ⟨rfl,rfl⟩;exact ⟨rfl,rfl⟩
theorem z8i {w:World} {S:Nat→Prop}:∀ {l:List Int} {xs:List Value},RdC cI w S xs l↔xs=l.map (Value.int .i64)∧∀ x∈l,z0p x
 | [],xs=>by simp[RdC]
 | a::l,xs=>by
  constructor
  ·rintro ⟨ys,zs,rfl,⟨rfl,h2⟩,h3⟩;obtain ⟨rfl,h4⟩:=z8i.1 h3;refine ⟨rfl,fun x hx=>?_⟩;rcases List.mem_cons.1 hx with rfl | hx
   ·exact h2
   ·exact h4 x hx
  ·rintro ⟨rfl,h⟩;exact ⟨[.int .i64 a],l.map (Value.int .i64),rfl,⟨rfl,h a mCs⟩,z8i.2 ⟨rfl,fun x hx=>h x (mCm _ hx)⟩⟩
theorem RdS.i64 {w:World} {S:Nat→Prop} {A:Option Addr} {l:List Int} (h:RdS cI w S A l):∀ x∈l,z0p x:=fun x hx=>by
 obtain ⟨i,hi,rfl⟩:=List.getElem_of_mem hx;obtain ⟨_,_,_,_,h1,_⟩:=h.elI hi;exact h1
theorem y2b (l:List Int) (A:Option Addr) (cap:Nat) (w:World) (hA:∀ a,A=some a→a.spot=none) (hr:RdS cI w (Lt w) A l) (hl:l.length≤100000):Calls Tryz.prog 24 #[.slice A l.length cap] w fun e w'=>∃ v,e=.returned v∧z09 cI w' w.heap.size 3 v l 0∧Below w.heap.size w w':=by
 cases A with
 | none=>
  have hl0:l=[]:=by
   by_cases h:0 < l.length
   ·obtain ⟨b,off,h1,-⟩:=hr h;cases h1
   ·exact List.eq_nil_of_length_eq_zero (by omega)
  subst hl0;refine (Tryz.slices_Clone_int_nil _ cap w).mono ?_;rintro e w' ⟨rfl,rfl⟩
  exact ⟨_,rfl,z09.nil _ _ _ _ nZ,bQ⟩
 | some a=>
  obtain ⟨b,off,sp⟩:=a;have hsp:sp=none:=hA _ rfl;subst hsp;have hO:=hr.i64;refine (Tryz.slices_Clone_int b off l.length cap l w nL (by omega) (fun j hj=>?_)).mono ?_
  ·obtain ⟨b',off',hA',-,-,y0⟩:=hr.elI hj;simp only[qE,Addr.mk.injEq,and_true] at hA';obtain ⟨rfl,rfl⟩:=hA';rw[y0];simp[List.getD,hj]
  ·rintro e w' ⟨v',rfl,hown,-,hb⟩;rw[List.take_length] at hown;exact ⟨v',rfl,⟨_,hown,z8i.2 ⟨rfl,hO⟩,nZ⟩,hb⟩
theorem x8p (l:List Int):l.mergeSort (fun x y=>decide (x≤y))=z4l ltI l:=by
 have tr:∀ a b c:Int,ltI b a=false→ltI c b=false→ltI c a=false:=fun a b c h1 h2=>by simp[ltI] at *;omega
 have hhs:∀ a b:Int,ltI a b=true→ltI b a=false:=fun a b h=>by simp[ltI] at *;omega
 have an:∀ a b:Int,ltI a b=false→ltI b a=false→a=b:=fun a b h1 h2=>by simp[ltI] at *;omega
 refine y6c an ((List.mergeSort_perm l _).trans (z1k l).symm) ?_ (z5b tr hhs l);have:=List.pairwise_mergeSort (le:=fun x y:Int=>decide (x≤y)) (fun a b c h1 h2=>by simp at *;omega) (fun a b=>by simp;omega) l;exact this.imp fun h=>by simp[ltI] at *;omega
theorem j5y {w:World} {g n:Nat} {os:Array Obj} {cur:Array Value} {e:TypeId} {fr:Nat × Nat} (F:Array Int) (hb:w.heap[g]? = some (.cells cur e fr)) :
  (grow (putRow (Value.int .i64) (Sort.ahead w n) g 0 F) os).heap[g]? = some (.cells (putCells (Value.int .i64) 0 F cur) e fr):=by
 have hg:g < w.heap.size:=(Array.getElem?_eq_some_iff.1 hb).1;rw[heap_grow_old _ _ (by simpa using hg)];simp[putRow,mapBlock,Sort.ahead,Array.getElem?_modify,hb,onCells]
theorem z9i {w:World} {g n k:Nat} {os:Array Obj} (F:Array Int) (hk:k < w.heap.size) (hne:k≠g) :
  (grow (putRow (Value.int .i64) (Sort.ahead w n) g 0 F) os).heap[k]? = w.heap[k]?:=by
 rw[heap_grow_old _ _ (by simpa using hk)];have:g≠k:=fun e=>hne e.symm
 simp[putRow,mapBlock,Sort.ahead,Array.getElem?_modify,this]
theorem y65 (F:Array Int) (cur:Array Value) (h:F.size≤cur.size) (m:Nat) (hm:m≤F.size):(putCells (Value.int .i64) 0 F cur).toList.take m=(F.toList.take m).map (Value.int .i64):=by
 apply List.ext_getElem?;intro j;by_cases hj:j < m
 ·rw[List.getElem?_take_of_lt hj,Array.getElem?_toList];simp[putCells,show j < F.size by omega,show j < cur.size by omega,hj]
 ·rw[List.getElem?_take_eq_none (by omega),List.getElem?_eq_none (by simp;omega)]
theorem y5x {w:World} {base cap:Nat} {A:Option Addr} {l:List Int} (h:z09 cI w base 3 (.slice A l.length cap) l 0) (h0:A=none→False):∃ b cur,A=some ⟨b,0,none⟩∧base≤b∧w.heap[b]? = some (.cells cur 3 (0,0))∧l.length≤cap∧cap≤maxLen∧cur.size=cap∧(∀ x∈l,z0p x)∧Holds (Value.int .i64) w b 0 l.toArray:=by
 obtain ⟨xs,h1,h2,h3⟩:=h;rcases h1.2 with ⟨hv,_⟩ | ⟨b,cap',cur,hv,hb,hg,hcap,hm,hsz,htake⟩
 ·simp only[Value.slice.injEq] at hv;exact (h0 hv.1).elim
 ·simp only[Value.slice.injEq] at hv;obtain ⟨rfl,-,rfl⟩:=hv;obtain ⟨rfl,hO⟩:=z8i.1 h2;refine ⟨b,cur,rfl,hb,hg,hcap,hm,by simpa [cI] using hsz,hO,fun j hj=>?_⟩;have hj':j < l.length:=by simpa using hj
  rw[Nat.zero_add,cell_of_row w b _ cur _ (0,0) hg];refine ⟨?_,Lib.frozen_of_heap hg j⟩;have h5:(cur.toList.take (l.length*cI.size))[j]? = cur.toList[j]?:=List.getElem?_take_of_lt (by simp[cI];omega);rw[←Array.getElem?_toList,←h5,htake];simp[hj']
theorem y6b (l:List Int) (A:Option Addr) (cap base:Nat) (w:World) (hown:z09 cI w base 3 (.slice A l.length cap) l 0) (hl:l.length≤100000) :
  Calls Tryz.prog 44 #[.slice A l.length cap] w fun e w'=>e=.returned (.tuple #[])∧z09 cI w' base 3 (.slice A l.length cap) (z4l ltI l) 0∧Frm base 3 w w':=by
 have hpl:(z4l ltI l).length=l.length:=(z1k l).length_eq
 cases hA:A with
 | none=>
  subst hA;have hl0:l=[]:=by
   obtain ⟨xs,h1,h2,h3⟩:=hown;rcases h1.2 with ⟨-,h0⟩ | ⟨b,cap',cur,hv,-⟩
   ·exact List.eq_nil_of_length_eq_zero h0
   ·cases hv
  subst hl0;refine (Tryz.slices_Sort_int_none none cap w).mono ?_;rintro e w' ⟨rfl,rfl⟩
  exact ⟨rfl,hown,Frm.refl _ _ _⟩
 | some a=>
  obtain ⟨b,cur,hAe,hb,hg,hcap,hm,hsz,hO,hH⟩:=y5x hown (by rw[hA];intro h;cases h);rw[hA] at hAe;subst hA;rw[sJ hAe];refine (Tryz.slices_Sort_int b 0 cap l w hH (z0j hg) (by omega)).mono ?_;rintro e w' ⟨rfl,n,os,rfl⟩;rw[x8p];refine ⟨rfl,⟨(z4l ltI l).map (Value.int .i64),⟨by simp[cI],Or.inr ⟨b,cap,_,by rw[hpl],hb,j5y _ hg,by rw[hpl];exact hcap,hm,by simp[putCells,hsz,cI],?_⟩⟩,z8i.2 ⟨rfl,fun x hx=>hO x ((z1k l).mem_iff.1 hx)⟩,nZ⟩,?_⟩
  ·rw[y65 _ _ (by simp[hpl,hsz];exact hcap) _ (by simp[cI])];simp[cI]
  ·refine ⟨rfl,rfl,rfl,by simp[putRow,grow,mapBlock,Sort.ahead],fun k hk hk2=>z9i _ hk2 (by omega),fun k o ho hne=>?_⟩;have hkb:k≠b:=by
    rintro rfl;rw[ho] at hg;exact hne _ _ (sJ hg)
   exact (z9i _ (z0j ho) hkb).trans ho
theorem j0w (x:Int) (l:List Int):z0v (l++[x])=z0v l++(if l.getLast? = some x then [] else [x]):=by
 cases l with
 | nil=>rfl
 | cons a t=>
  simp only[List.cons_append,z0v];rw[z6e];congr 2;have:(a::t).getLastD a=((a::t).getLast?).getD a:=by simp[List.getLastD_eq_getLast?]
  rw[this,List.getLast?_cons];simp[eq_comm]
theorem y7j (l:List Int):Lib.compact l=z0v l:=by
 have key:∀ m,m≤l.length→Lib.compactUpTo l.toArray m=z0v (l.take m):=by
  intro m
  induction m with
  | zero=>intro _;rfl
  | succ m ih=>
   intro hm;rw[Lib.compactUpTo_succ,ih (by omega),tqS (by omega),j0w];congr 1;have hx:l.toArray[m]! = l[m]:=by simp[getElem!_pos,show m < l.length by omega]
   rw[hx]
   cases m with
   | zero=>simp[Lib.keeps]
   | succ k=>
    have hk:l.toArray[k]! = l[k]:=by simp[getElem!_pos,show k < l.length by omega]
    have hlast:(l.take (k+1)).getLast? = some l[k]:=by
     rw[tqS (by omega),List.getLast?_append];rfl
    rw[hlast];have:Lib.keeps l.toArray (k+1) = !decide (l[k+1]=l[k]):=by
     unfold Lib.keeps;rw[hx,show k+1 - 1=k by omega,hk];simp
    rw[this];by_cases h:l[k+1]=l[k]
    ·simp[h]
    ·have h2:¬l[k]=l[k+1]:=fun e=>h e.symm
     simp[h,h2]
 have:=key l.length nL
 rwa [List.take_length] at this
theorem z8r (l:List Int) (A:Option Addr) (cap base:Nat) (w:World) (hown:z09 cI w base 3 (.slice A l.length cap) l 0) (hl:l.length≤100000) :
  Calls Tryz.prog 45 #[.slice A l.length cap] w fun e w'=>e=.returned (.slice A (z0v l).length cap)∧z09 cI w' base 3 (.slice A (z0v l).length cap) (z0v l) 0∧Frm base 3 w w':=by
 have hcl:=z4t l
 cases hA:A with
 | none=>
  subst hA;have hl0:l=[]:=by
   obtain ⟨xs,h1,h2,h3⟩:=hown;rcases h1.2 with ⟨-,h0⟩ | ⟨b,cap',cur,hv,-⟩
   ·exact List.eq_nil_of_length_eq_zero h0
   ·cases hv
  subst hl0;refine (Tryz.slices_Compact_int_empty none cap w).mono ?_;rintro e w' ⟨rfl,rfl⟩
  exact ⟨rfl,hown,Frm.refl _ _ _⟩
 | some a=>
  obtain ⟨b,cur,hAe,hb,hg,hcap,hm,hsz,hO,hH⟩:=y5x hown (by rw[hA];intro h;cases h);rw[hA] at hAe;subst hA;rw[sJ hAe];refine (Tryz.slices_Compact_int b 0 cap l w hH (by omega) hcap).mono ?_;rintro e w' ⟨rfl,n,rfl⟩;rw[y7j];have hF:(z0v l++List.replicate (l.length - (z0v l).length) 0).toArray.size=l.length:=by simp;omega
  have hgr:∀ W:World,W=grow W #[]:=fun W=>by simp[grow]
  rw[hgr (putRow _ _ _ _ _)];refine ⟨rfl,⟨(z0v l).map (Value.int .i64),⟨by simp[cI],Or.inr ⟨b,cap,_,rfl,hb,j5y _ hg,by omega,hm,by simp[putCells,hsz,cI],?_⟩⟩,z8i.2 ⟨rfl,fun x hx=>hO x (y5m.1 hx)⟩,nZ⟩,?_⟩
  ·rw[y65 _ _ (by rw[hF,hsz];exact hcap) _ (by rw[hF];simp[cI];exact hcl)];simp[cI]
  ·refine ⟨rfl,rfl,rfl,by simp[putRow,grow,mapBlock,Sort.ahead],fun k hk hk2=>z9i _ hk2 (by omega),fun k o ho hne=>?_⟩;have hkb:k≠b:=by
    rintro rfl;rw[ho] at hg;exact hne _ _ (sJ hg)
   exact (z9i _ (z0j ho) hkb).trans ho
end Go.Proofs.YtpenlfedkacglaaGreatDoor
namespace Go.Proofs.YtpenlfedkacglaaGreatDoor
open Go.RowKit
attribute [local go_sem] z05 z07 z01 z02
attribute [-go_sem] run_equalIn_agg
def cPr:Cod (Int × Int) where
 size:=2
 rd:=fun _ _ cs x=>cs=[.int .i64 x.1,.int .i64 x.2]∧(z0p x.1∧z0p x.2)
 fit:=fun _=>True
 len:=fun h=>by rw[h.1];rfl
 keep:=fun h _=>h
 more:=fun h _=>h
theorem RdS.j7u {w:World} {S:Nat→Prop} {A:Option Addr} {l:List (Int × Int)} (h:RdS cPr w S A l) {i:Nat} (hi:i < l.length):∃ b off,A=some ⟨b,off,none⟩∧S b∧(z0p l[i].1∧z0p l[i].2)∧w.cell? ⟨b,off+i*2,none⟩=some (.int .i64 l[i].1)∧w.cell? ⟨b,off+i*2+1,none⟩=some (.int .i64 l[i].2):=by
 obtain ⟨b,off,h1,h2,h3⟩:=h (by omega);obtain ⟨ys,⟨rfl,h4⟩,h5⟩:=h3 i l[i] (gqE hi);exact ⟨b,off,h1,h2,h4,h5 0 _ rfl,h5 1 _ rfl⟩
theorem j8n (w:World) (d:Nat) (a b c e:Int):(Op.equalIn (d+2) 170 (.agg #[.int .i64 a,.int .i64 b]) (.agg #[.int .i64 c,.int .i64 e])).run Tryz.prog w=.ok (decide ((a,b)=(c,e))) w:=by
 have hi:∃ i,Tryz.prog.info? 3=some i:=by
  cases h:Tryz.prog.info? 3 with
  | some i=>exact ⟨i,rfl⟩
  | none=>exact absurd h (by rw[show (Tryz.prog.info? 3=none)=False from eq_false (by have:=z3f;intro h;rw[h] at this;cases this)];exact id)
 obtain ⟨i,hi⟩:=hi;have hc:Tryz.prog.cellsOf 3=1:=by kernel_rfl
 rw[run_equalIn_array w (d+1) _ _ Tryz.underlying170 hi,hc];simp only[show List.range 2=[0,1] from rfl,Op.eqItems];by_cases e0:a=c;case neg=>simp[go_sem,e0]
 subst e0;by_cases e1:b=e;case neg=>simp[go_sem,e1]
 subst e1;simp[go_sem]
def eqPr (a b c e:Int):Bool:=decide ((a,b)=(c,e))
theorem j5s (w:World) (d:Nat) (a b c e:Int):(Op.equalIn (d+2) 170 (.agg #[.int .i64 a,.int .i64 b]) (.agg #[.int .i64 c,.int .i64 e])).run Tryz.prog w=.ok (eqPr a b c e) w:=j8n w d a b c e
attribute [local go_sem high] j5s
theorem j1o (l:List (Int × Int)) (s p:Int) (A:Option Addr) (cap:Nat) (w:World) (hr:RdS cPr w (Lt w) A l) (hl:l.length≤maxLen):Calls Tryz.prog 105 #[.slice A l.length cap,.int .i64 s,.int .i64 p] w fun e w'=>e=.returned (.bool (decide ((s,p)∈l)))∧Below w.heap.size w w':=by
 unfold maxLen at hl;go_enter Tryz.func105,Tryz.ntmps105
 go_wp2_with fail;go_loopw [11] (fun i wr=>∃ k:Nat,k≤l.length∧i=.int .i64 k∧Below w.heap.size w wr∧Hid ((s,p)∉l.take k)) (fun i _=>l.length - (intOf i).toNat)
 case atStart=>exact ⟨0,nZ,rfl,bQ,hE (by simp)⟩
 case round=>
  obtain ⟨k,hkl,rfl,hb,HK⟩:=hrel;by_cases hlt:k < l.length
  ·have hki:(k:Int) < (l.length:Int):=by omega
   obtain ⟨b,off,hA,lb,ho,y0,y1⟩:=(hr.now hb).j7u hlt;have HM:Hid ((l[k].1,l[k].2)∈l):=hE (uE hlt);have HS:Hid (l.take (k+1)=l.take k++[(l[k].1,l[k].2)]):=hE (tqS hlt);have hb2:Below w.heap.size w (wr.alloc (.cells #[.int .i64 l[k].1,.int .i64 l[k].2] 170)):=hb.alloc hb.size _;generalize l[k].1=n at *;generalize l[k].2=q at *;rw[hA]
   cases he:eqPr n q s p with
   | true=>
    have hx:(n,q)=(s,p):=oDt he;have HX:Hid (decide ((s,p)∈l)=true):=hE (dTt (hx▸HM.out));clear hx HM HS;go_wp2_with fail
    go_ret
    exact ⟨z0a HX.out.symm,hb2⟩
   | false=>
    have hx:¬(n,q)=(s,p):=of_decide_eq_false he;have HX:Hid ((s,p)∉l.take (k+1)):=hE (by
     rw[HS.out,mAp,List.mem_singleton];rintro (h | h)
     ·exact HK.out h
     ·exact hx h.symm)
    clear hx HM HS;go_wp2_with fail
    go_roundw
    case rel=>exact ⟨k+1,by omega,by go_num,hb2,HX⟩
    case measure=>simp[intOf];omega
  ·have hki:¬(k:Int) < (l.length:Int):=by omega
   have HX:Hid (decide ((s,p)∈l)=false):=hE (dFf (by have:=HK.out;rwa [tlL (by omega)] at this));go_wp2_with fail
   go_ret;exact ⟨z0a HX.out.symm,hb⟩
end Go.Proofs.YtpenlfedkacglaaGreatDoor
namespace Go.Proofs.YtpenlfedkacglaaGreatDoor
open Go.RowKit Go.Shelf
attribute [local go_sem] z05 z07 z01 z02
attribute [-go_sem] run_equalIn_agg
theorem y4g:(Tryz.prog.info? 58).map (fun i=>(i.zero,i.size,i.bytes))=some (some (.agg #[.int .i64 0,.int .i64 0,.int .i64 0]),3,24):=by kernel_rfl
theorem y3d:Flat cRS:=fun _ _ _ _ _ _ h=>h
theorem y6z (l:List RSt) (A:Option Addr) (cap:Nat) (w:World) (hA:∀ a,A=some a→a.spot=none) (hr:RdS cRS w (Lt w) A l) (hl:l.length≤100000) :
  Calls Tryz.prog 61 #[.slice A l.length cap] w fun e w'=>∃ v,e=.returned v∧z09 cRS w' w.heap.size 58 v l 0∧Below w.heap.size w w':=by
 obtain ⟨i0,hi,hz0,hz1,hz2⟩:=info_parts y4g;exact z7h y3d (fun h u hu=>by obtain ⟨rfl,-⟩:=h;simp at hu;rcases hu with rfl | rfl | rfl <;> rfl) Tryz.layC61 i0 _ 24 hi hz0 hz1 hz2 rfl (by decide) Tryz.sizeOf58 (by omega) l A cap w hA hr hl
theorem z6c {P:Program} {ρ:Ren} (L:SlLaysE0.n41 P ρ) (i0:TypeInfo) (z:Value) (size bytes:Nat) (hi:P.info? (ρ.t 23)=some i0) (hz0:i0.zero=some z) (hz1:i0.size=size) (hz2:i0.bytes=bytes) (hzs:z.cells.size=size) (hsz:0 < size)
  (z23:∀ w,(Go.sizeOf (ρ.t 23)).run P w=.ok size w) (a:Addr) (c:Nat) (w:World) :
  Calls P (ρ.f 41) #[.slice (some a) 0 c] w fun e w'=>∃ v',e=.returned v'∧w'.ownsRow w.heap.size (ρ.t 23) size v' 0 []∧Below w.heap.size w w':=by
 have mixed:=L.mixed;have t4:=L.t4;have a4:=L.a4;have z4:=L.z4;have v4:=L.v4;have t22:=L.t22;have a22:=L.a22;have z22:=L.z22;have v22:=L.v22;have q22:∀ (w:World) (a:Option Addr) (n c n' c':Nat),(binOp .eql (ρ.t 22) (.slice a n c) (.slice none n' c')).run P w=.ok (.bool a.isNone) w:=fun w a n c n' c'=>Lib.run_eql_slice_nil w _ _ a n c n' c' L.t22
 have u22:∀ w,Sem.run P (underlying (ρ.t 22)) w=.ok (TypeDesc.slice (ρ.t 23)) w:=run_underlying t22;obtain ⟨_,_,FG⟩:=L.f41;go_enter FG,SlBodyN.n41_ntmps ρ
 go_wp2_with (at_builtin;refine wpList_append_own _ rfl _ _ (ρ.t 22) rfl w.heap.size (ρ.t 23) i0 z size bytes t22 hi hz0 hz1 hz2 hzs hsz _ _ _ rfl (World.ownsRow_made w #[] 0 nL nZ (by simp)) a 0 c [] rfl ?qc1 ?qc2 ?qc3 ?qc4 ?qc5 ?qc6 ?_)
 case qc1=>simp
 case qc2=>intro j u hj;cases hj
 case qc3=>intro u hu;cases hu
 case qc4=>rw[Nat.zero_add];exact nZ
 case qc5=>rw[Nat.zero_add];simp
 case qc6=>simp
 intro v' w1 hown hgrow hnil;go_wp2
 go_ret;refine ⟨v',rfl,by simpa using hown,?_⟩;exact ((Below.refl _ w).alloc nL _).grown hgrow (by simp) (by intro k hk;simp[Value.ownBlock] at hk;omega)
theorem y6x {P:Program} {ρ:Ren} (L:Lays2.n15 P ρ) (a:Addr) (c:Nat) (w:World) :
  Calls P (ρ.f 15) #[.slice (some a) 0 c] w fun e w'=>∃ v',e=.returned v'∧w'.ownsRow w.heap.size (ρ.t 3) 1 v' 0 []∧Below w.heap.size w w':=by
 have mixed:=L.mixed;have t3:=L.t3;have a3:=L.a3;have z3:=L.z3;have v3:=L.v3;have t4:=L.t4;have a4:=L.a4;have z4:=L.z4;have v4:=L.v4;have t22:=L.t22;have a22:=L.a22;have z22:=L.z22;have v22:=L.v22;obtain ⟨i0,hi,hz0,hz1,hz2⟩:=info_parts L.i3;have q22:∀ (w:World) (a:Option Addr) (n c n' c':Nat),(binOp .eql (ρ.t 22) (.slice a n c) (.slice none n' c')).run P w=.ok (.bool a.isNone) w:=fun w a n c n' c'=>Lib.run_eql_slice_nil w _ _ a n c n' c' L.t22
 have u22:∀ w,Sem.run P (underlying (ρ.t 22)) w=.ok (TypeDesc.slice (ρ.t 3)) w:=run_underlying t22;go_enter L.f15,Body2.n15_ntmps ρ
 go_wp2_with (at_builtin;refine wpList_append_own _ rfl _ _ (ρ.t 22) rfl w.heap.size (ρ.t 3) i0 (.int .i64 0) 1 8 t22 hi hz0 hz1 hz2 rfl (by decide) _ _ _ rfl (World.ownsRow_made w #[] 0 nL nZ rfl) a 0 c [] rfl ?qc1 ?qc2 ?qc3 ?qc4 ?qc5 ?qc6 ?_)
 case qc1=>simp
 case qc2=>intro j u hj;cases hj
 case qc3=>intro u hu;cases hu
 case qc4=>rw[Nat.zero_add];exact nZ
 case qc5=>rw[Nat.zero_add];simp
 case qc6=>simp
 intro v' w1 hown hgrow hnil;go_wp2
 go_ret;refine ⟨v',rfl,by simpa using hown,?_⟩;exact ((Below.refl _ w).alloc nL _).grown hgrow (by simp) (by intro k hk;simp[Value.ownBlock] at hk;omega)
theorem empty_of {α:Type} {c:Cod α} {w:World} {S:Nat→Prop} {a:Addr} {l:List α} (h:RdS c w S (some a) l) (hs:a.spot≠none):l=[]:=by
 by_cases h0:0 < l.length
 ·obtain ⟨b,off,h1,-⟩:=h h0;exact absurd (by rw[sJ h1]) hs
 ·exact List.eq_nil_of_length_eq_zero (by omega)
theorem z2j (l:List Int) (A:Option Addr) (cap:Nat) (w:World) (hr:RdS cI w (Lt w) A l) (hl:l.length≤100000) :
  Calls Tryz.prog 24 #[.slice A l.length cap] w fun e w'=>∃ v,e=.returned v∧z09 cI w' w.heap.size 3 v l 0∧Below w.heap.size w w':=by
 by_cases hA:∀ a,A=some a→a.spot=none
 ·exact y2b l A cap w hA hr hl
 ·cases A with
  | none=>exact absurd (fun a h=>by cases h) hA
  | some a=>
   have hs:a.spot≠none:=fun h=>hA fun a' ha=>by rw[←sJ ha];exact h
   obtain rfl:=empty_of hr hs;refine (y6x Tryz.laysNm215 a cap w).mono ?_;rintro e w' ⟨v',rfl,hown,hb⟩;exact ⟨v',rfl,⟨[],hown,rfl,nZ⟩,hb⟩
theorem z5m (l:List Stp) (A:Option Addr) (cap:Nat) (w:World) (hr:RdS z1h w (Lt w) A l) (hl:l.length≤100000) :
  Calls Tryz.prog 34 #[.slice A l.length cap] w fun e w'=>∃ v,e=.returned v∧z09 z1h w' w.heap.size 85 v l 0∧Below w.heap.size w w':=by
 by_cases hA:∀ a,A=some a→a.spot=none
 ·exact z5n l A cap w hA hr hl
 ·cases A with
  | none=>exact absurd (fun a h=>by cases h) hA
  | some a=>
   have hs:a.spot≠none:=fun h=>hA fun a' ha=>by rw[←sJ ha];exact h
   obtain rfl:=empty_of hr hs;obtain ⟨i0,hi,hz0,hz1,hz2⟩:=info_parts z3d;refine (z6c Tryz.layC34 i0 _ 3 24 hi hz0 hz1 hz2 rfl (by decide) Tryz.sizeOf85 a cap w).mono ?_;rintro e w' ⟨v',rfl,hown,hb⟩;exact ⟨v',rfl,⟨[],hown,rfl,nZ⟩,hb⟩
theorem z4j (l:List Stg) (A:Option Addr) (cap:Nat) (w:World) (hr:RdS z2x w (Lt w) A l) (hl:l.length≤100000) :
  Calls Tryz.prog 35 #[.slice A l.length cap] w fun e w'=>∃ v,e=.returned v∧z09 z2x w' w.heap.size 78 v l 0∧Below w.heap.size w w':=by
 by_cases hA:∀ a,A=some a→a.spot=none
 ·exact y4x l A cap w hA hr hl
 ·cases A with
  | none=>exact absurd (fun a h=>by cases h) hA
  | some a=>
   have hs:a.spot≠none:=fun h=>hA fun a' ha=>by rw[←sJ ha];exact h
   obtain rfl:=empty_of hr hs;obtain ⟨i0,hi,hz0,hz1,hz2⟩:=info_parts z3k;refine (z6c Tryz.layC35 i0 _ 2 16 hi hz0 hz1 hz2 rfl (by decide) Tryz.sizeOf78 a cap w).mono ?_;rintro e w' ⟨v',rfl,hown,hb⟩;exact ⟨v',rfl,⟨[],hown,rfl,nZ⟩,hb⟩
theorem y4v (l:List z0o) (A:Option Addr) (cap:Nat) (w:World) (hr:RdS y1z w (Lt w) A l) (hl:l.length≤100000) :
  Calls Tryz.prog 47 #[.slice A l.length cap] w fun e w'=>∃ v,e=.returned v∧z09 y1z w' w.heap.size 90 v l 0∧Below w.heap.size w w':=by
 by_cases hA:∀ a,A=some a→a.spot=none
 ·exact y4w l A cap w hA hr hl
 ·cases A with
  | none=>exact absurd (fun a h=>by cases h) hA
  | some a=>
   have hs:a.spot≠none:=fun h=>hA fun a' ha=>by rw[←sJ ha];exact h
   obtain rfl:=empty_of hr hs;obtain ⟨i0,hi,hz0,hz1,hz2⟩:=info_parts z7j;refine (z6c Tryz.layC47 i0 _ 2 16 hi hz0 hz1 hz2 rfl (by decide) Tryz.sizeOf90 a cap w).mono ?_;rintro e w' ⟨v',rfl,hown,hb⟩;exact ⟨v',rfl,⟨[],hown,rfl,nZ⟩,hb⟩
theorem y6y (l:List RSt) (A:Option Addr) (cap:Nat) (w:World) (hr:RdS cRS w (Lt w) A l) (hl:l.length≤100000) :
  Calls Tryz.prog 61 #[.slice A l.length cap] w fun e w'=>∃ v,e=.returned v∧z09 cRS w' w.heap.size 58 v l 0∧Below w.heap.size w w':=by
 by_cases hA:∀ a,A=some a→a.spot=none
 ·exact y6z l A cap w hA hr hl
 ·cases A with
  | none=>exact absurd (fun a h=>by cases h) hA
  | some a=>
   have hs:a.spot≠none:=fun h=>hA fun a' ha=>by rw[←sJ ha];exact h
   obtain rfl:=empty_of hr hs;obtain ⟨i0,hi,hz0,hz1,hz2⟩:=info_parts y4g;refine (z6c Tryz.layC61 i0 _ 3 24 hi hz0 hz1 hz2 rfl (by decide) Tryz.sizeOf58 a cap w).mono ?_;rintro e w' ⟨v',rfl,hown,hb⟩;exact ⟨v',rfl,⟨[],hown,rfl,nZ⟩,hb⟩
end Go.Proofs.YtpenlfedkacglaaGreatDoor
namespace Go.Proofs.YtpenlfedkacglaaGreatDoor
open Go.RowKit
attribute [local go_sem] z05 z07 z01 z02
attribute [-go_sem] run_equalIn_agg
theorem RdS.drop {α:Type} {c:Cod α} {w:World} {S:Nat→Prop} {b off:Nat} {l:List α} (h:RdS c w S (some ⟨b,off,none⟩) l) (k:Nat):RdS c w S (some ⟨b,off+k*c.size,none⟩) (l.drop k):=by
 intro hl;obtain ⟨b',off',h1,h2,h3⟩:=h (by rw[List.length_drop] at hl;omega);simp only[qE,Addr.mk.injEq,and_true] at h1;obtain ⟨rfl,rfl⟩:=h1;refine ⟨b,off+k*c.size,rfl,h2,fun i x hx=>?_⟩;rw[List.getElem?_drop] at hx;obtain ⟨ys,h4,h5⟩:=h3 (k+i) x hx;refine ⟨ys,h4,fun j u hu=>?_⟩;have:=h5 j u hu
 rwa [Nat.add_mul,←Nat.add_assoc] at this
def x6b (n:Nat) (s:RSt):Prop:=s.st≠0→∃ k:Nat,s.rel=k∧k < n
theorem y9g (v:z2v) (s:RSt) (w:World) (hr:RvR w (Lt w) v) (hrel:x6b v.r.secs.length s) (h3:v.r.secs.length≤40000):Calls Tryz.prog 51 #[.agg (z0e v),.agg #[.int .i64 s.st,.int .i64 s.rel,.int .i64 s.tim]] w (y35 cI 3 w (z1p v.r s)):=by
 have hb2:Below w.heap.size w ((w.alloc (.cells (z0e v) 56)).alloc (.cells #[.int .i64 s.st,.int .i64 s.rel,.int .i64 s.tim] 58)):=(bQ.alloc nL _).alloc (by simp) _;by_cases h0:s.st=0
 ·have HX:Hid ([]=z1p v.r s):=hE (by unfold z1p;rw[if_pos h0]);have t1:(s.st==0)=true:=by simpa using h0
  clear h0 hrel;go_enter Tryz.func51,Tryz.ntmps51
  go_wp2_with fail;go_ret
  exact z0x HX.out rfl (z09.nil _ _ _ _ nZ) hb2
 ·obtain ⟨k,hk,hlt⟩:=hrel h0;have HX:Hid (v.r.secs.drop k=z1p v.r s):=hE (by unfold z1p;rw[if_neg h0,hk];rfl);have t1:(s.st==0)=false:=by simpa using h0
  clear h0 hrel;have hc3:=hr.o.n3;unfold maxLen at hc3;have hr3:=hr.r3;obtain ⟨b,off,hA,lb,-,-⟩:=hr3.elI hlt;rw[hA] at hr3;have hd:=(hr3.drop k).now hb2;rw[show cI.size=1 from rfl,Nat.mul_one] at hd;have HC:=hE (y2b (v.r.secs.drop k) (some ⟨b,off+k,none⟩) (v.c3 - k) _ (fun a h=>by cases h;rfl) hd (by rw[List.length_drop];omega));rw[List.length_drop] at HC;obtain ⟨st,rel,tim⟩:=s;obtain ⟨rv,A1,A2,A3,A4,A5,A6,A7,A8,A9,c1,c2,c3,c4,c5,c6,c7,c8,c9⟩:=v;dsimp only at hk t1 hA HC hb2 hlt hc3 h3 HX ⊢;subst hk hA;have hki:(k:Int)≤(rv.secs.length:Int):=by omega
  have hne:¬c3=k:=by omega
  clear hr3 hd lb;obtain ⟨W2,hW2⟩:∃ W,W=(w.alloc (.cells #[.string (bs rv.name),.int .i64 rv.ent,.int .i64 rv.ext,.slice A1 rv.path.length c1,.slice A2 rv.pts.length c2,.slice (some ⟨b,off,none⟩) rv.secs.length c3,.int .i64 rv.app,.int .i64 rv.len,.slice A4 rv.over.length c4,.slice A5 rv.opts.length c5,.slice A6 rv.osecs.length c6,.slice A7 rv.flk.length c7,.slice A8 rv.grd.length c8,.slice A9 rv.gap.length c9] 56)).alloc (.cells #[.int .i64 st,.int .i64 k,.int .i64 tim] 58):=⟨_,rfl⟩
  rw[←hW2] at HC hb2;go_enter Tryz.func51,Tryz.ntmps51
  go_wp2_with fail;rw[←hW2];clear hW2;refine HC.out.mono ?_;rintro e w3 ⟨c,rfl,ho,hq⟩;have hb3:=z00 hb2 hb2.size hq;have ho3:=ho.lower hb2.size;go_wp2_with fail
  go_ret;exact z0x HX.out rfl ho3 hb3
theorem x9a (v:z2v) (s:RSt) (w:World) (hr:RvR w (Lt w) v) (h6:v.r.osecs.length≤40000):Calls Tryz.prog 103 #[.agg (z0e v),.agg #[.int .i64 s.st,.int .i64 s.rel,.int .i64 s.tim]] w (y35 cI 3 w (z7n v.r s)):=by
 have hb2:Below w.heap.size w ((w.alloc (.cells (z0e v) 56)).alloc (.cells #[.int .i64 s.st,.int .i64 s.rel,.int .i64 s.tim] 58)):=(bQ.alloc nL _).alloc (by simp) _;by_cases h0:s.st=0
 ·have HX:Hid ([]=z7n v.r s):=hE (by unfold z7n;rw[if_pos h0]);have t1:(s.st==0)=true:=by simpa using h0
  clear h0;go_enter Tryz.func103,Tryz.ntmps103
  go_wp2_with fail;go_ret
  exact z0x HX.out rfl (z09.nil _ _ _ _ nZ) hb2
 ·have HX:Hid (v.r.osecs=z7n v.r s):=hE (by unfold z7n;rw[if_neg h0]);have t1:(s.st==0)=false:=by simpa using h0
  clear h0;have HC:=hE (z2j v.r.osecs v.A6 v.c6 _ (hr.r6.now hb2) (by omega));obtain ⟨W2,hW2⟩:∃ W,W=(w.alloc (.cells (z0e v) 56)).alloc (.cells #[.int .i64 s.st,.int .i64 s.rel,.int .i64 s.tim] 58):=⟨_,rfl⟩
  rw[←hW2] at HC hb2;go_enter Tryz.func103,Tryz.ntmps103
  go_wp2_with fail;rw[←hW2];clear hW2;refine HC.out.mono ?_;rintro e w3 ⟨c,rfl,ho,hq⟩;have hb3:=z00 hb2 hb2.size hq;have ho3:=ho.lower hb2.size;go_wp2_with fail
  go_ret;exact z0x HX.out rfl ho3 hb3
theorem x9c:(Tryz.prog.info? 170).map (fun i=>(i.zero,i.size,i.bytes))=some (some (.agg #[.int .i64 0,.int .i64 0]),2,16):=by kernel_rfl
theorem z7v {α β:Type} {f:α→β} {l:List α} {k:Nat} (h:k < l.length):(l.take (k+1)).map f=(l.take k).map f++[f l[k]]:=by
 rw[tqS h,List.map_append];rfl
theorem y5j (r:Rou) (s:RSt):z3l r s=(z1p r s).map (fun n=>(n,(0:Int)))++(z7n r s).map fun n=>(n,(1:Int)):=rfl
theorem y0i (r:Rou) (s:RSt):(z1p r s).length≤r.secs.length:=by unfold z1p;split <;> simp
theorem y5u (r:Rou) (s:RSt):(z7n r s).length≤r.osecs.length:=by unfold z7n;split <;> simp
theorem z8g (v:z2v) (s:RSt) (w:World) (hr:RvR w (Lt w) v) (hrel:x6b v.r.secs.length s) (h3:v.r.secs.length≤40000) (h6:v.r.osecs.length≤40000):Calls Tryz.prog 57 #[.agg (z0e v),.agg #[.int .i64 s.st,.int .i64 s.rel,.int .i64 s.tim]] w (y35 cPr 170 w (z3l v.r s)):=by
 obtain ⟨i0,hi,hz0,hz1,hz2⟩:=info_parts x9c;obtain ⟨W2,hW2⟩:∃ W,W=(w.alloc (.cells (z0e v) 56)).alloc (.cells #[.int .i64 s.st,.int .i64 s.rel,.int .i64 s.tim] 58):=⟨_,rfl⟩
 have hb2:Below w.heap.size w W2:=by rw[hW2];exact (bQ.alloc nL _).alloc (by simp) _
 have hx0:Blk W2 w.heap.size 56 (z0e v):=by rw[hW2];exact (Blk.new _ _ _ _ rfl).alloc _
 have hx1:Blk W2 (w.heap.size+1) 58 #[.int .i64 s.st,.int .i64 s.rel,.int .i64 s.tim]:=by rw[hW2];exact Blk.new _ _ _ _ (by simp)
 have HP:=hE (y9g v s W2 (hr.now hb2) hrel h3);go_enter Tryz.func57,Tryz.ntmps57
 go_wp2_with fail;rw[←hW2];clear hW2;refine HP.out.mono ?_;rintro e w3 ⟨A1,c1,rfl,ho1,hq3⟩;have hp3:=y0i v.r s;have HLK:=hE (y5j v.r s);have hb3:=z00 hb2 hb2.size hq3;have hx03:=hx0.now hq3;have hx13:=hx1.now hq3;have ho13:=ho1.lower hb2.size;clear HP hx0 hx1 hb2 hq3 ho1;generalize z1p v.r s=pl at *;go_wp2_with fail
 go_loopw [5,14] (fun a i wr=>∃ k:Nat,k≤pl.length∧i=.int .i64 k∧z09 cPr wr w.heap.size 170 a ((pl.take k).map fun n=>(n,(0:Int))) 0∧z09 cI wr w.heap.size 3 (.slice A1 pl.length c1) pl 0∧Blk wr w.heap.size 56 (z0e v)∧Blk wr (w.heap.size+1) 58 #[.int .i64 s.st,.int .i64 s.rel,.int .i64 s.tim]∧Below w.heap.size w wr) (fun _ i _=>pl.length - (intOf i).toNat)
 case atStart=>exact ⟨0,nZ,rfl,z09.nil _ _ _ _ nZ,ho13,hx03,hx13,hb3⟩
 case round=>
  obtain ⟨k,hkl,rfl,hacc,hpl,hxr,hxs,hb⟩:=hrel;clear ho13 hx03 hx13 hb3;by_cases hlt:k < pl.length
  ·have hki:(k:Int) < (pl.length:Int):=by omega
   obtain ⟨b,off,hA,lb,ho,y0⟩:=hpl.rdn.2.elI hlt;have lb2:b < wr.heap.size:=lb.2;have HS:=hE (z7v (f:=fun n=>(n,(0:Int))) hlt);have hal:((pl.take k).map fun n=>(n,(0:Int))).length≤40000:=by rw[List.length_map,lTk];omega
   have hsz:=hb.size;subst hA;generalize pl[k]=n at *;generalize (pl.take k).map (fun n=>(n,(0:Int)))=acc at *;clear lb;go_wp2_with (at_builtin;go_loud (refine z0h (c:=cPr) _ rfl _ _ 116 rfl w.heap.size 170 i0 _ 16 Tryz.underlying116 hi hz0 hz1 hz2 rfl (by decide) _ acc 0 rfl hacc [.int .i64 n,.int .i64 0] (n,0) ⟨rfl,ho,by constructor <;> simp⟩ (by intro u hu;simp at hu;rcases hu with rfl | rfl <;> rfl) _ rfl (by omega) (by omega) (by omega) ?_);intro v' w7 hown7 hf7 hs7)
   go_roundw
   case rel=>
    have hk1:k+1≤pl.length:=hlt;refine ⟨k+1,hk1,by go_num,?_,hpl.frm hf7 (by decide) nZ,hf7.blk hxr (by decide),hf7.blk hxs (by decide),hf7.keeps nL hsz hb⟩;rw[HS.out];exact hown7
   case measure=>simp[intOf];omega
  ·have hki:¬(k:Int) < (pl.length:Int):=by omega
   have htk:pl.take k=pl:=tlL (by omega);rw[htk] at hacc;clear hpl;obtain ⟨A5,c5,hv5⟩:=hacc.form;rw[hv5] at hacc;have HO:=hE (x9a v s wr (hr.now hb) h6);have hal:(pl.map fun n=>(n,(0:Int))).length≤40000:=by rw[List.length_map];omega
   generalize (pl.map fun n=>(n,(0:Int)))=acc at *;subst hv5;have x0:=hxr.cell 0;have x1:=hxr.cell 1;have x2:=hxr.cell 2;have x3:=hxr.cell 3;have x4:=hxr.cell 4;have x5:=hxr.cell 5;have x6:=hxr.cell 6;have x7:=hxr.cell 7;have x8:=hxr.cell 8;have x9:=hxr.cell 9;have x10:=hxr.cell 10;have x11:=hxr.cell 11;have x12:=hxr.cell 12;have x13:=hxr.cell 13;have z0:=hxs.cell 0;have z1:=hxs.cell 1;have z2:=hxs.cell 2;have lx:=hxr.lt;have lz:=hxs.lt;simp only[gqA,gqZ,gqS] at x0 x1 x2 x3 x4 x5 x6 x7 x8 x9 x10 x11 x12 x13 z0 z1 z2;go_wp2_with fail
   refine HO.out.mono ?_;rintro e w4 ⟨A2,c2,rfl,ho2,hq4⟩;have hol:=y5u v.r s;have hb4:=z00 hb hb.size hq4;have hacc4:=hacc.now hq4;have ho24:=ho2.lower hb.size;clear x0 x1 x2 x3 x4 x5 x6 x7 x8 x9 x10 x11 x12 x13 z0 z1 z2 lx lz HO hxr hxs hb hacc ho2 hq4;generalize z7n v.r s=ol at *;go_wp2_with fail
   go_loopw [5,28] (fun a i wr=>∃ k:Nat,k≤ol.length∧i=.int .i64 k∧z09 cPr wr w.heap.size 170 a (acc++(ol.take k).map fun n=>(n,(1:Int))) 0∧z09 cI wr w.heap.size 3 (.slice A2 ol.length c2) ol 0∧Below w.heap.size w wr) (fun _ i _=>ol.length - (intOf i).toNat)
   case atStart=>
    refine ⟨0,nZ,rfl,?_,ho24,hb4⟩;simpa using hacc4
   case round=>
    obtain ⟨k2,hk2,rfl,hacc,hpl,hb⟩:=hrel;clear hacc4 ho24 hb4;by_cases hlt:k2 < ol.length
    ·have hki2:(k2:Int) < (ol.length:Int):=by omega
     obtain ⟨b,off,hA,lb,ho,y0⟩:=hpl.rdn.2.elI hlt;have lb2:b < wr.heap.size:=lb.2;have HS:Hid (acc++(ol.take (k2+1)).map (fun n=>(n,(1:Int)))=(acc++(ol.take k2).map fun n=>(n,(1:Int)))++[(ol[k2],(1:Int))]):=hE (by rw[z7v (f:=fun n=>(n,(1:Int))) hlt,List.append_assoc]);have hal2:(acc++(ol.take k2).map fun n=>(n,(1:Int))).length≤80000:=by rw[qL,List.length_map,lTk];omega
     have hsz:=hb.size;subst hA;generalize ol[k2]=n at *;generalize acc++(ol.take k2).map (fun n=>(n,(1:Int)))=acc2 at *;clear lb;go_wp2_with (at_builtin;go_loud (refine z0h (c:=cPr) _ rfl _ _ 116 rfl w.heap.size 170 i0 _ 16 Tryz.underlying116 hi hz0 hz1 hz2 rfl (by decide) _ acc2 0 rfl hacc [.int .i64 n,.int .i64 1] (n,1) ⟨rfl,ho,by constructor <;> simp⟩ (by intro u hu;simp at hu;rcases hu with rfl | rfl <;> rfl) _ rfl (by omega) (by omega) (by omega) ?_);intro v' w7 hown7 hf7 hs7)
     go_roundw
     case rel=>
      have hk1:k2+1≤ol.length:=hlt;refine ⟨k2+1,hk1,by go_num,?_,hpl.frm hf7 (by decide) nZ,hf7.keeps nL hsz hb⟩;rw[HS.out];exact hown7
     case measure=>simp[intOf];omega
    ·have hki2:¬(k2:Int) < (ol.length:Int):=by omega
     rw[tlL (by omega)] at hacc;go_wp2_with fail
     go_ret;exact z0x HLK.out.symm rfl hacc hb
end Go.Proofs.YtpenlfedkacglaaGreatDoor
namespace Go.Proofs.YtpenlfedkacglaaGreatDoor
open Go.RowKit Go.Shelf Go.Lib
attribute [local go_sem] z05 z07 z01 z02
attribute [-go_sem] run_equalIn_agg
theorem y4f (x:RSt) (n:Nat) (w:World) (hn:n≤100000):Calls Tryz.prog 101 #[.agg #[.int .i64 x.st,.int .i64 x.rel,.int .i64 x.tim],.int .i64 (n:Int)] w fun e w'=>e=.returned (.bool (z0z x n))∧Below w.heap.size w w':=by
 have hb:Below w.heap.size w (w.alloc (.cells #[.int .i64 x.st,.int .i64 x.rel,.int .i64 x.tim] 58)):=bQ.alloc nL _;obtain ⟨st,rel,tim⟩:=x;dsimp only at *;have hwr:IntKind.i64.wrap ((n:Int) - 1)=(n:Int) - 1:=IntWalk.i64_in _ (by omega);by_cases h0:st=0
 ·subst h0;go_enter Tryz.func101,Tryz.ntmps101
  go_wp2_with fail;all_goals go_ret
  all_goals refine ⟨z0a ?_,bQ.alloc nL _⟩
  all_goals clear hb
  all_goals rw[Bool.eq_iff_iff]
  all_goals simp_all [z0z]
  all_goals try omega
 by_cases h1:st=1
 ·subst h1;clear h0;go_enter Tryz.func101,Tryz.ntmps101
  go_wp2_with fail;all_goals go_ret
  all_goals refine ⟨z0a ?_,bQ.alloc nL _⟩
  all_goals clear hb
  all_goals rw[Bool.eq_iff_iff]
  all_goals simp_all [z0z]
  all_goals try omega
 by_cases h2:st=2
 ·subst h2;clear h0 h1;go_enter Tryz.func101,Tryz.ntmps101
  go_wp2_with fail;all_goals go_ret
  all_goals refine ⟨z0a ?_,bQ.alloc nL _⟩
  all_goals clear hb
  all_goals rw[Bool.eq_iff_iff]
  all_goals simp_all [z0z]
  all_goals try omega
 by_cases h3:st=3
 ·subst h3;clear h0 h1 h2;go_enter Tryz.func101,Tryz.ntmps101
  go_wp2_with fail;all_goals go_ret
  all_goals refine ⟨z0a ?_,bQ.alloc nL _⟩
  all_goals clear hb
  all_goals rw[Bool.eq_iff_iff]
  all_goals simp_all [z0z]
  all_goals try omega
 by_cases h4:st=4
 ·subst h4;clear h0 h1 h2 h3;go_enter Tryz.func101,Tryz.ntmps101
  go_wp2_with fail;all_goals go_ret
  all_goals refine ⟨z0a ?_,bQ.alloc nL _⟩
  all_goals clear hb
  all_goals rw[Bool.eq_iff_iff]
  all_goals simp_all [z0z]
  all_goals try omega
 ·have HX:Hid (z0z ⟨st,rel,tim⟩ n=false):=hE (by simp[z0z,h0,h1,h2,h3,h4]);have t0:(st==0)=false:=by simpa using h0
  have t1:(st==1)=false:=by simpa using h1
  have t2:(st==2)=false:=by simpa using h2
  have t3:(st==3)=false:=by simpa using h3
  have t4:(st==4)=false:=by simpa using h4
  clear h0 h1 h2 h3 h4;go_enter Tryz.func101,Tryz.ntmps101
  go_wp2_with fail;go_ret
  exact ⟨z0a HX.out.symm,hb⟩
theorem x7r (l:List Int) (x:Int) (A:Option Addr) (cap:Nat) (w:World) (hr:RdS cI w (Lt w) A l) (hl:l.length≤maxLen):Calls Tryz.prog 106 #[.slice A l.length cap,.int .i64 x] w fun e w'=>e=.returned (.bool (decide (x∈l)))∧Below w.heap.size w w':=by
 have HC:=hE (z4z l x A cap w hr hl);go_enter Tryz.func106,Tryz.ntmps106
 go_wp2_with fail;refine HC.out.mono ?_;rintro e w2 ⟨rfl,rfl⟩;go_wp2_with fail
 go_ret;exact ⟨rfl,bQ⟩
theorem x8o (l:List Int) (A:Option Addr) (cap:Nat) (w:World) (hr:RdS cI w (Lt w) A l) (hl:l.length≤100000):Calls Tryz.prog 22 #[.slice A l.length cap] w (y35 cI 3 w (z0v (z4l ltI l))):=by
 have HC:=hE (z2j l A cap w hr hl);go_enter Tryz.func22,Tryz.ntmps22
 go_wp2_with fail;refine HC.out.mono ?_;rintro e w2 ⟨v,rfl,ho,hb⟩;obtain ⟨A2,c2,rfl⟩:=ho.form;have HS:=hE (y6b l A2 c2 _ w2 ho hl);clear HC;go_wp2_with fail
 refine HS.out.mono ?_;rintro e w3 ⟨rfl,ho3,hf3⟩;have hpl:(z4l ltI l).length=l.length:=(z1k l).length_eq;rw[←hpl] at ho3;have HM:=hE (z8r _ A2 c2 _ w3 ho3 (by omega));rw[hpl] at HM;have hb3:=hf3.keeps nL hb.size hb;clear HS ho ho3 hf3 hpl;go_wp2_with fail
 refine HM.out.mono ?_;rintro e w4 ⟨rfl,ho4,hf4⟩;have hb4:=hf4.keeps nL hb3.size hb3;go_wp2_with fail
 go_ret;exact z0x rfl rfl ho4 hb4
end Go.Proofs.YtpenlfedkacglaaGreatDoor
