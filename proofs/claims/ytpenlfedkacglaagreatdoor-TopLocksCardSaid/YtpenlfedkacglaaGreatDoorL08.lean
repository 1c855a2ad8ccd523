import Derived.Test.YtpenlfedkacglaaGreatDoorL07
import Derived.Lib.SliceRun
set_option maxRecDepth 100000
set_option maxHeartbeats 40000000
set_option linter.all false
namespace Go.Proofs.YtpenlfedkacglaaGreatDoor
open Go.RowKit Go.Sort
attribute [local go_sem] z05 z07 z01 z02
attribute [-go_sem] run_equalIn_agg
instance inhStg:Inhabited Stg:=⟨zG⟩
def j7i (x:Stg):Prop:=z0p x.el∧z0p x.pos
theorem z8j {w:World} {S:Nat→Prop}:∀ {l:List Stg} {xs:List Value},RdC z2x w S xs l↔xs=l.flatMap z3m∧∀ x∈l,j7i x
 | [],xs=>by simp[RdC]
 | a::l,xs=>by
  constructor
  ·rintro ⟨ys,zs,rfl,⟨rfl,h2⟩,h3⟩;obtain ⟨rfl,h4⟩:=z8j.1 h3;refine ⟨rfl,fun x hx=>?_⟩;rcases List.mem_cons.1 hx with rfl | hx
   ·exact h2
   ·exact h4 x hx
  ·rintro ⟨rfl,h⟩;exact ⟨z3m a,l.flatMap z3m,rfl,⟨rfl,h a mCs⟩,z8j.2 ⟨rfl,fun x hx=>h x (mCm _ hx)⟩⟩
theorem y5b:∀ d:List Stg,(d.flatMap z3m).length=d.length*2
 | []=>rfl
 | x::r=>by
  have:=y5b r;rw[List.flatMap_cons,qL,this,lCn];simp only[z3m,lCn,List.length_nil];omega
theorem j09:∀ (d:List Stg) (t:Nat),t < d.length*2→(d.flatMap z3m)[t]? = some ((z3m (d.toArray[t / 2]!))[t % 2]!)
 | [],t,h=>by simp at h
 | x::r,0,_=>by simp[z3m]
 | x::r,1,_=>by simp[z3m]
 | x::r,t+2,h=>by
  have:=j09 r t (by simp at h;omega);rw[List.flatMap_cons,List.getElem?_append_right (by simp[z3m])];simp only[z3m,lCn,List.length_nil];rw[show t+2 - (0+1+1)=t by omega,this,show (t+2) / 2=t / 2+1 by omega,show (t+2) % 2=t % 2 by omega];simp[z3m]
theorem y2e (d:List Stg):(Go.Sort.flatK z3m 2 d.toArray).toList=d.flatMap z3m:=by
 apply List.ext_getElem?;intro t;by_cases h:t < d.length*2
 ·rw[j09 d t h];have hs:t < (Go.Sort.flatK z3m 2 d.toArray).size:=by rw[size_flatK];simpa using h
  rw[Array.getElem?_toList,agE hs];have:=get_flatK z3m 2 d.toArray t (by simpa using h);rw[getElem!_pos _ t hs] at this;rw[this]
 ·rw[List.getElem?_eq_none (by rw[Array.length_toList,size_flatK];simp;omega),List.getElem?_eq_none (by rw[y5b];omega)]
theorem x9e (F cur:Array Value) (h:F.size≤cur.size):(putCells id 0 F cur).toList.take F.size=F.toList:=by
 apply List.ext_getElem?;intro j;by_cases hj:j < F.size
 ·rw[List.getElem?_take_of_lt hj,Array.getElem?_toList];simp[putCells,hj,show j < cur.size by omega]
 ·rw[List.getElem?_take_eq_none (by omega),List.getElem?_eq_none (by simp;omega)]
theorem heap_put {w:World} {g n:Nat} {os:Array Obj} {cur:Array Value} {e:TypeId} {fr:Nat × Nat} (F:Array Value) (hb:w.heap[g]? = some (.cells cur e fr)) :
  (grow (putRow id (Sort.ahead w n) g 0 F) os).heap[g]? = some (.cells (putCells id 0 F cur) e fr):=by
 have hg:g < w.heap.size:=(Array.getElem?_eq_some_iff.1 hb).1;rw[heap_grow_old _ _ (by simpa using hg)];simp[putRow,mapBlock,Sort.ahead,Array.getElem?_modify,hb,onCells]
theorem y09 {w:World} {g n k:Nat} {os:Array Obj} (F:Array Value) (hk:k < w.heap.size) (hne:k≠g) :
  (grow (putRow id (Sort.ahead w n) g 0 F) os).heap[k]? = w.heap[k]?:=by
 rw[heap_grow_old _ _ (by simpa using hk)];have:g≠k:=fun e=>hne e.symm
 simp[putRow,mapBlock,Sort.ahead,Array.getElem?_modify,this]
theorem z9p {l:List Stg}:(z4l ltG l).length=l.length:=(z1k l).length_eq
theorem j6a:∀ w,(isAgg 78).run Tryz.prog w=.ok true w:=Tryz.isAgg78
theorem j9b:∀ w,(Go.sizeOf 78).run Tryz.prog w=.ok 2 w:=Tryz.sizeOf78
theorem y0w (g:Nat) (eg:∀ args w,(callFunc g args).run Tryz.prog w=.ok (.enter g args) w) (hc:∀ (x y:Stg) (W:World),Calls Tryz.prog g #[.agg (z3m x).toArray,.agg (z3m y).toArray] W fun e w'=>e=.returned (.int .i64 (cfG x y))∧∃ q os',w' = grow (W.drewN q) os') (l:List Stg) (A:Option Addr) (cap base:Nat) (w:World) (hown:z09 z2x w base 78 (.slice A l.length cap) l 0) (hl:l.length≤100000) :
  Calls Tryz.prog 39 #[.slice A l.length cap,.func (.func g) #[] #[]] w fun e w'=>e=.returned (.tuple #[])∧z09 z2x w' base 78 (.slice A l.length cap) (z4l ltG l) 0∧Frm base 78 w w':=by
 obtain ⟨xs,h1,h2,h3⟩:=hown;rcases h1.2 with ⟨hv,h0⟩ | ⟨b,cap',cur,hv,hb,hg,hcap,hm,hsz,htake⟩
 ·have hln:l=[]:=List.eq_nil_of_length_eq_zero h0;subst hln;refine (AnyF.slices_SortFunc_none Tryz.layF39 A cap (.func (.func g) #[] #[]) w).mono ?_;rintro e w' ⟨rfl,rfl⟩;exact ⟨rfl,⟨xs,h1,h2,h3⟩,Frm.refl _ _ _⟩
 ·simp only[Value.slice.injEq] at hv;obtain ⟨rfl,-,rfl⟩:=hv;obtain ⟨rfl,hO⟩:=z8j.1 h2;have hlt:b < w.heap.size:=z0j hg;have hfl:(Go.Sort.flatK z3m 2 l.toArray).size=l.length*2:=by simp
  have hH:HoldsK z3m 2 w b 0 l.toArray:=by
   intro j hj;rw[hfl] at hj;rw[Nat.zero_add,cell_of_row w b _ cur _ (0,0) hg];refine ⟨?_,Lib.frozen_of_heap hg j⟩;have h5:(cur.toList.take (l.length*2))[j]? = cur.toList[j]?:=List.getElem?_take_of_lt (by omega);have h6:(Go.Sort.flatK z3m 2 l.toArray).toList[j]? = cur.toList[j]?:=by
    rw[y2e,←h5];exact congrArg (·[j]?) htake.symm
   have hs:j < (Go.Sort.flatK z3m 2 l.toArray).size:=by rw[hfl];omega
   rw[Array.getElem?_toList,Array.getElem?_toList,agE hs] at h6;rw[getElem!_pos _ j hs];exact h6.symm
  have hcon:=AnyQ.slices_SortFunc_total Tryz.layF39 2 j6a j9b z3m (fun _=>rfl) (fun x v hv=>by simp[z3m] at hv;rcases hv with rfl | rfl <;> rfl) cfG k0i g #[] b 0 cap l.toArray w eg (fun _ _ _ _ x y=>hc x y _) hH hlt (by simp;omega) (fun x y h1 h2=>by rw[y5l] at h1 h2;exact x49 x y h1 h2);rw[j2i] at hcon;simp only[List.size_toArray] at hcon;refine hcon.mono ?_;rintro e w' ⟨rfl,n,os,rfl⟩;have hpl:(z4l ltG l).length=l.length:=z9p;have hf2:(Go.Sort.flatK z3m 2 (z4l ltG l).toArray).size=l.length*2:=by simp[hpl]
  refine ⟨rfl,⟨(z4l ltG l).flatMap z3m,⟨by rw[y5b];rfl,Or.inr ⟨b,cap,_,by rw[hpl],hb,heap_put _ hg,by rw[hpl];exact hcap,hm,by simp[putCells,hsz],?_⟩⟩,z8j.2 ⟨rfl,fun x hx=>hO x (y92.1 hx)⟩,nZ⟩,?_⟩
  ·rw[hpl];show List.take (l.length*2) _=_;rw[←hf2,x9e _ _ (by rw[hf2,hsz];exact Nat.mul_le_mul_right 2 hcap),y2e]
  ·refine ⟨rfl,rfl,rfl,by simp[sortWorldK,putRowK,grow],fun k hk hk2=>y09 _ hk2 (by omega),fun k o ho hne=>?_⟩;have hkb:k≠b:=by
    rintro rfl;rw[ho] at hg;exact hne _ _ (sJ hg)
   exact (y09 _ (z0j ho) hkb).trans ho
end Go.Proofs.YtpenlfedkacglaaGreatDoor
namespace Go.Proofs.YtpenlfedkacglaaGreatDoor
open Go.RowKit
attribute [local go_sem] z05 z07 z01 z02
attribute [-go_sem] run_equalIn_agg
theorem x9q:Tryz.prog.stoodInHeld 78=false:=by kernel_rfl
theorem y55 (w:World) (d:Nat) (x y:Stg):(Op.equalIn (d+2) 78 (.agg #[.int .i64 x.el,.int .i64 x.pos]) (.agg #[.int .i64 y.el,.int .i64 y.pos])).run Tryz.prog w=.ok (decide (x=y)) w:=by
 have h3:=Tryz.underlying3;have hf:=fields_of Tryz.underlying78;rw[run_equalIn_struct w (d+1) 78 _ _ (by rw[hf,Tryz.underlying78]) x9q,hf];obtain ⟨x0,x1⟩:=x;obtain ⟨y0,y1⟩:=y;by_cases e0:x0=y0;case neg=>simp[go_sem,e0]
 subst e0;by_cases e1:x1=y1;case neg=>simp[go_sem,e1]
 subst e1;simp[go_sem]
def z5j (w:World) (base b cap:Nat) (d:List Stg):Prop:=z09 z2x w base 78 (.slice (some ⟨b,0,none⟩) d.length cap) d 0
section
variable {w w':World} {base b cap:Nat} {d:List Stg}
theorem z5j.parts (h:z5j w base b cap d):(∀ x∈d,j7i x)∧∃ cur,base≤b∧w.heap[b]? = some (.cells cur 78 (0,0))∧d.length≤cap∧cap≤maxLen∧cur.size=cap*2∧cur.toList.take (d.length*2)=d.flatMap z3m:=by
 obtain ⟨xs,h1,h2,h3⟩:=h;obtain ⟨rfl,hO⟩:=z8j.1 h2;rcases h1.2 with ⟨hv,h0⟩ | ⟨g,cap',cur,hv,hb,hg,hcap,hm,hsz,ht⟩
 ·cases hv
 ·simp only[Value.slice.injEq,qE,Addr.mk.injEq,and_true] at hv;obtain ⟨rfl,-,rfl⟩:=hv;exact ⟨hO,cur,hb,hg,hcap,hm,hsz,ht⟩
theorem z5j.of {cur:Array Value} (hO:∀ x∈d,j7i x) (hb:base≤b) (hg:w.heap[b]? = some (.cells cur 78 (0,0))) (hcap:d.length≤cap) (hm:cap≤maxLen) (hsz:cur.size=cap*2) (ht:cur.toList.take (d.length*2)=d.flatMap z3m):z5j w base b cap d:=
 ⟨d.flatMap z3m,⟨by rw[y5b];rfl,Or.inr ⟨b,cap,cur,rfl,hb,hg,hcap,hm,hsz,ht⟩⟩,z8j.2 ⟨rfl,hO⟩,nZ⟩
theorem z5j.drewN (h:z5j w base b cap d) (n:Nat):z5j (w.drewN n) base b cap d:=z09.now h (Below.drewN bQ n)
theorem z5j.at (h:z5j w base b cap d) {k:Nat} (hk:k < d.length):w.cell? ⟨b,k*2,none⟩=some (.int .i64 d[k].el)∧w.cell? ⟨b,k*2+1,none⟩=some (.int .i64 d[k].pos):=by
 have:=(z09.rdn h).2;obtain ⟨b',off,hA,-,-,y0,y1⟩:=this.elG hk;simp only[qE,Addr.mk.injEq,and_true] at hA;obtain ⟨rfl,rfl⟩:=hA;rw[Nat.zero_add] at y0 y1;exact ⟨y0,y1⟩
theorem z5j.free (h:z5j w base b cap d) (k:Nat):w.frozen? ⟨b,k,none⟩=false:=by obtain ⟨-,cur,-,hg,-⟩:=h.parts;exact Lib.frozen_of_heap hg k
theorem z3a {w:World} {b j:Nat} {u:Value} {cur:Array Value} {T:TypeId} {fr:Nat × Nat} (hg:w.heap[b]? = some (.cells cur T fr)):(w.setCell ⟨b,j,none⟩ u).heap[b]? = some (.cells (cur.setIfInBounds j u) T fr):=by
 simp[World.setCell,Array.getElem?_modify,hg]
theorem j0a:∀ (d:List Stg) (k:Nat) (x:Stg),k < d.length→(d.set k x).flatMap z3m=((d.flatMap z3m).set (k*2) (.int .i64 x.el)).set (k*2+1) (.int .i64 x.pos)
 | [],k,x,h=>by simp at h
 | y::r,0,x,_=>by simp[z3m]
 | y::r,k+1,x,h=>by
  have:=j0a r k x (by simpa using h);simp only[List.set_cons_succ,List.flatMap_cons];rw[this,show (k+1)*2=k*2+1+1 by omega,show k*2+1+1+1=(k*2+1)+1+1 by omega];simp[z3m]
theorem z5j.put (h:z5j w base b cap d) {k:Nat} (hk:k < d.length) {x:Stg} (hx:j7i x):z5j ((w.setCell ⟨b,k*2,none⟩ (.int .i64 x.el)).setCell ⟨b,k*2+1,none⟩ (.int .i64 x.pos)) base b cap (d.set k x):=by
 obtain ⟨hO,cur,hb,hg,hcap,hm,hsz,ht⟩:=h.parts;refine z5j.of (fun y hy=>?_) hb (z3a (z3a hg)) (by simpa using hcap) hm (by simpa using hsz) ?_
 ·rcases List.mem_or_eq_of_mem_set hy with hy | rfl
  ·exact hO y hy
  ·exact hx
 ·rw[List.length_set,j0a d k x hk,←ht,Array.toList_setIfInBounds,Array.toList_setIfInBounds,List.take_set,List.take_set]
theorem z5j.pre (h:z5j w base b cap d) (k:Nat) (hk:k≤d.length):z5j w base b cap (d.take k):=by
 obtain ⟨hO,cur,hb,hg,hcap,hm,hsz,ht⟩:=h.parts;refine z5j.of (fun y hy=>hO y (List.mem_of_mem_take hy)) hb hg (by rw[lTk];omega) hm hsz ?_;rw[lTk,Nat.min_eq_left hk];have e1:(d.take k).flatMap z3m=(d.flatMap z3m).take (k*2):=by
  have h5:d.flatMap z3m=(d.take k).flatMap z3m++(d.drop k).flatMap z3m:=by rw[←List.flatMap_append,List.take_append_drop]
  have h6:((d.take k).flatMap z3m).length=k*2:=by rw[y5b,lTk,Nat.min_eq_left hk]
  generalize (d.take k).flatMap z3m=u at *;rw[h5,←h6,List.take_left]
 rw[e1,←ht,List.take_take,Nat.min_eq_left (by omega)]
theorem z5j.far (h:z5j w base b cap d) {j:Nat} (hj:d.length*2≤j) (u:Value):z5j (w.setCell ⟨b,j,none⟩ u) base b cap d:=by
 obtain ⟨hO,cur,hb,hg,hcap,hm,hsz,ht⟩:=h.parts;refine z5j.of hO hb (z3a hg) hcap hm (by simpa using hsz) ?_;rw[Array.toList_setIfInBounds,List.take_set,List.set_eq_of_length_le (by rw[lTk];omega),ht]
theorem z5j.k02 (h:z5j w base b cap d):∀ (vs:List Value) (j:Nat),d.length*2≤j→z5j (w.setCells b j vs) base b cap d:=by
 intro vs
 induction vs generalizing w with
 | nil=>intro j _;exact h
 | cons v r ih=>intro j hj;exact ih (h.far hj v) (j+1) (by omega)
theorem y3r {T:TypeId} {cur:Array Value} (hg:w.heap[b]? = some (.cells cur T (0,0))) (hb:base≤b) (j:Nat) (u:Value):Frm base T w (w.setCell ⟨b,j,none⟩ u):=by
 refine ⟨rfl,rfl,rfl,by simp[World.setCell],fun k hk hk2=>Below.heap_setCell _ _ _ _ (by show k≠b;omega),fun k o ho hne=>?_⟩;have:k≠b:=by
  rintro rfl;rw[hg] at ho;exact hne _ _ (sJ ho).symm
 exact (Below.heap_setCell _ _ _ _ (by show k≠b;exact this)).trans ho
theorem z5j.frm (h:z5j w base b cap d) (j:Nat) (u:Value):Frm base 78 w (w.setCell ⟨b,j,none⟩ u):=by
 obtain ⟨-,cur,hb,hg,-⟩:=h.parts;exact y3r hg hb j u
theorem z5j.k03 (h:z5j w base b cap d) (j:Nat) (u:Value) (j2:Nat) (u2:Value):Frm base 78 w ((w.setCell ⟨b,j,none⟩ u).setCell ⟨b,j2,none⟩ u2):=by
 obtain ⟨-,cur,hb,hg,-⟩:=h.parts;exact (y3r hg hb j u).trans (y3r (z3a hg) hb j2 u2)
theorem z5j.k04 (h:z5j w base b cap d):∀ (vs:List Value) (j:Nat),d.length*2≤j→Frm base 78 w (w.setCells b j vs):=by
 intro vs
 induction vs generalizing w with
 | nil=>intro j _;exact Frm.refl _ _ _
 | cons v r ih=>intro j hj;exact (h.frm j v).trans (ih (h.far hj v) (j+1) (by omega))
end
theorem z6e {α:Type} [DecidableEq α] (x:α):∀ (l:List α) (a:α),z5o a (l++[x])=z5o a l++(if x=(a::l).getLastD a then [] else [x])
 | [],a=>by simp[z5o]
 | y::r,a=>by
  rw[List.cons_append,z5o,z5o];split
  ·rename_i e;subst e;rw[z6e x r y];cases r <;> rfl
  ·rw[z6e x r y,List.cons_append];cases r <;> rfl
theorem z6d {α:Type} [DecidableEq α] {l:List α} {k:Nat} (hk:k+1 < l.length):z0v (l.take (k+2))=z0v (l.take (k+1))++(if l[k+1]=l[k] then [] else [l[k+1]]):=by
 rw[tqS (i:=k+1) hk]
 match hm:l.take (k+1),(show (l.take (k+1)).length=k+1 by rw[lTk];omega) with
 | a::t,hl=>
  simp only[List.cons_append,z0v];rw[z6e];have hlast:(a::t).getLastD a=l[k]:=by
   have h1:(l.take (k+1)).getLast? = some l[k]:=by
    rw[List.getLast?_eq_getElem?,lTk,Nat.min_eq_left (by omega),Nat.add_sub_cancel,List.getElem?_take_of_lt (by omega),gqE]
   rw[hm] at h1;rw[List.getLastD_eq_getLast?,h1];rfl
  rw[hlast]
theorem z4t {α:Type} [DecidableEq α] (l:List α):(z0v l).length≤l.length:=by
 have hK:∀ (l:List α) (a:α),(z5o a l).length≤l.length:=by
  intro l
  induction l with
  | nil=>intro a;exact nL
  | cons x r ih=>
   intro a;rw[z5o];split
   ·exact nR (ih a) (by simp)
   ·simp only[lCn];have:=ih x;omega
 cases l with
 | nil=>exact nL
 | cons x r=>simp only[z0v,lCn];have:=hK r x;omega
theorem y02 {α:Type} [DecidableEq α] {l:List α} (h:l.length < 2):z0v l=l:=by
 match l,h with
 | [],_=>rfl
 | [x],_=>rfl
structure j00 (l d:List Stg) (m j:Nat):Prop where
 len:d.length=l.length
 le:m+1≤j
 pre:d.take (m+1)=z0v (l.take (j+1))
 suf:∀ i,m+1≤i→d[i]? = l[i]?
theorem j00.keep {l d:List Stg} {m j:Nat} (h:j00 l d m j) (hj:j+1 < l.length) (he:l[j+1]=l[j]):j00 l d m (j+1):=
 ⟨h.len,by have:=h.le;omega,by rw[z6d hj,if_pos he,List.append_nil];exact h.pre,h.suf⟩
theorem j00.put {l d:List Stg} {m j:Nat} (h:j00 l d m j) (hj:j+1 < l.length) (he:l[j+1]≠l[j]):j00 l (d.set (m+1) l[j+1]) (m+1) (j+1):=by
 have hle:=h.le;have hlen:=h.len;refine ⟨by rw[List.length_set];exact h.len,by omega,?_,fun i hi=>?_⟩
 ·rw[z6d hj,if_neg he,←h.pre,tqS (i:=m+1) (by rw[List.length_set];omega),List.take_set_of_le (by omega),List.getElem_set_self]
 ·rw[List.getElem?_set_ne (by omega)];exact h.suf i (by omega)
theorem j9g:∀ w,(zeroValue 78).run Tryz.prog w=.ok (.agg #[.int .i64 0,.int .i64 0]) w:=Tryz.zeroValue78
theorem x1o (w:World) (ty:TypeId) (b o n c:Nat) (hn:0 < n) (hc:∀ j,j < n*2→(w.cell? ⟨b,o+j,none⟩).isSome=true) (hf:∀ j,j < n*2→w.frozen? ⟨b,o+j,none⟩=false) :
  (Builtin.clear_ #[53] ty #[.slice (some ⟨b,o,none⟩) n c]).run Tryz.prog w=.ok (.tuple #[]) (w.setCells b o (List.replicate (n*2) (.int .i64 0))):=by
 have hzc:(Builtin.zeroCells (Value.agg #[.int .i64 0,.int .i64 0]).cells n).toList=List.replicate (n*2) (.int .i64 0):=by
  apply List.ext_getElem
  ·simp[Builtin.zeroCells,Value.cells]
  ·intro i h1 h2;have:i % 2=0∨i % 2=1:=by omega
   rcases this with h | h <;> simp[Builtin.zeroCells,Value.cells,h]
 have hst:=run_storeCells_cells (P:=Tryz.prog) b o (List.replicate (n*2) (.int .i64 0)) 0 w (by simpa using hc) (by simpa using hf) (by intro v hv';rw[List.eq_of_mem_replicate hv'];rfl);simp only[Nat.add_zero] at hst;obtain ⟨m,rfl⟩:∃ m,n=m+1:=⟨n - 1,by omega⟩
 simp[Builtin.clear_,run_underlying Tryz.underlying53,j9g,hzc,hst]
theorem z5j.isS {w:World} {base b cap:Nat} {d:List Stg} (h:z5j w base b cap d) {j:Nat} (hj:j < d.length*2):(w.cell? ⟨b,j,none⟩).isSome=true:=by
 obtain ⟨-,cur,hb,hg,hcap,hm,hsz,ht⟩:=h.parts;rw[cell_of_row w b _ cur _ (0,0) hg,agE (by omega)];rfl
theorem z8q (l:List Stg) (A:Option Addr) (cap base:Nat) (w:World) (hown:z09 z2x w base 78 (.slice A l.length cap) l 0) (hl:l.length≤100000) :
  Calls Tryz.prog 43 #[.slice A l.length cap] w fun e w'=>e=.returned (.slice A (z0v l).length cap)∧z09 z2x w' base 78 (.slice A (z0v l).length cap) (z0v l) 0∧Frm base 78 w w':=by
 by_cases h2:l.length < 2
 ·rw[y02 h2];have h2i:(l.length:Int) < 2:=by omega
  have HO:=hE hown;clear hown;go_enter Tryz.func43,Tryz.ntmps43
  go_wp2_with fail;go_ret
  exact ⟨rfl,HO.out,Frm.refl _ _ _⟩
 obtain ⟨b,rfl⟩:∃ b,A=some ⟨b,0,none⟩:=by
  obtain ⟨xs,h1,-,-⟩:=hown;rcases h1.2 with ⟨hv,h0⟩ | ⟨g,cap',cur,hv,-⟩
  ·omega
  ·simp only[Value.slice.injEq] at hv;exact ⟨g,hv.1⟩
 have hrow:z5j w base b cap l:=hown;have h2i:¬(l.length:Int) < 2:=by omega
 have hcap:l.length≤cap:=by obtain ⟨-,cur,-,-,hc,-⟩:=hrow.parts;exact hc
 clear hown;go_enter Tryz.func43,Tryz.ntmps43
 go_wp2_with fail;go_loopw [3] (fun i wr=>∃ m:Nat,m+1≤l.length∧i=.int .i64 ((m:Int)+1)∧z5j wr base b cap l∧Frm base 78 w wr∧Hid (z0v (l.take (m+1))=l.take (m+1))) (fun i _=>l.length - (intOf i).toNat)
 case atStart=>exact ⟨0,by omega,rfl,hrow,Frm.refl _ _ _,hE (y02 (by rw[lTk];omega))⟩
 case round=>
  obtain ⟨m,hm,rfl,hr,hf,HK⟩:=hrel;clear hrow;by_cases hlt:m+1 < l.length
  ·have hki:(m:Int)+1 < (l.length:Int):=by omega
   obtain ⟨y0,y1⟩:=hr.at hlt;obtain ⟨z0,z1⟩:=hr.at (show m < l.length by omega)
   have hwk:IntKind.i64.wrap (m:Int)=(m:Int):=IntWalk.i64_in _ (by omega);have hmi:(m:Int) < (l.length:Int):=by omega
   have heq:∀ W,(Op.equalIn 10000 78 (.agg #[.int .i64 l[m+1].el,.int .i64 l[m+1].pos]) (.agg #[.int .i64 l[m].el,.int .i64 l[m].pos])).run Tryz.prog W=.ok (decide (l[m+1]=l[m])) W:=fun W=>y55 W 9998 _ _
   have HST:=hE (z6d hlt)
   cases hd:decide (l[m+1]=l[m]) with
   | false=>
    have HX:Hid (z0v (l.take (m+1+1))=l.take (m+1+1)):=hE (by rw[HST.out,if_neg (of_decide_eq_false hd),HK.out,←tqS hlt]);rw[hd] at heq;clear HST HK hd;generalize l[m+1]=p at *;generalize l[m]=q at *;go_wp2_with fail
    (refine wp_region_quiet_lit (by kernel_rfl) (by kernel_rfl) ?_;(repeat (any_goals (first | go_big_quiet_step (fail) | quiet_step (fail) | (refine wpQuiet_step (fun K hK=>?_);go_simp;split <;> (refine hK _ ?_;clear hK K)))));all_goals (refine wpQuiet_nil ?_;intro _ hw';obtain ⟨nq,hw''⟩:=hw';subst hw''))
    all_goals (go_wp2_with fail)
    all_goals go_roundw
    case rel=>exact ⟨m+1,by omega,by go_num,hr.drewN _,hf.trans (Frm.of_below (Below.drewN bQ _)),HX⟩
    case measure=>simp[intOf];omega
   | true=>
    have he:l[m+1]=l[m]:=oDt hd;have HST2:Hid (j00 l l m (m+1)):=hE ⟨rfl,nL,by rw[HST.out,if_pos he,List.append_nil,HK.out],fun i _=>rfl⟩;have HLL:=hE hlt;rw[hd] at heq;clear HST HK hd he;have hmc:(m:Int)+1≤(l.length:Int):=by omega
    have hmc2:(m:Int)+1≤(cap:Int):=by omega
    generalize l[m+1]=p at *;generalize l[m]=q at *;go_wp2_with fail
    (refine wp_region_quiet_lit (by kernel_rfl) (by kernel_rfl) ?_;(repeat (any_goals (first | go_big_quiet_step (fail) | quiet_step (fail) | (refine wpQuiet_step (fun K hK=>?_);go_simp;split <;> (refine hK _ ?_;clear hK K)))));all_goals (refine wpQuiet_nil ?_;intro _ hw';obtain ⟨nq,hw''⟩:=hw';subst hw''))
    all_goals (go_wp2_with fail)
    have hr2:=hr.drewN nq;have hf2:=hf.trans (Frm.of_below (base:=base) (e:=78) (Below.drewN (Below.refl wr.heap.size wr) nq));generalize hN:l.length - (m+1)=N2;generalize hC:cap - (m+1)=C2;have HNC:=hE (aIq hN hC);have hnl:l.length=m+1+N2:=by have:=HLL.out;omega
    have hN1:1≤N2:=by have:=HLL.out;omega
    have hc2:N2≤C2:=by omega
    clear heq hmi hwk y0 y1 z0 z1 hki hmc hmc2 hr hf hN hC;generalize wr.drewN nq=W0 at *;go_loopw [3,5] (fun a i W=>∃ (k r:Nat) (d:List Stg),a=.int .i64 ((k:Int)+1)∧i=.int .i64 ((r:Int)+1)∧r+1≤N2∧k≤m+r∧z5j W base b cap d∧Frm base 78 w W∧Hid (j00 l d k (m+1+r))) (fun _ i _=>N2 - (intOf i).toNat)
    case atStart=>exact ⟨m,0,l,rfl,rfl,hN1,by omega,hr2,hf2,HST2⟩
    case round=>
     obtain ⟨k,r,d,rfl,rfl,hr1,hkm,hrw,hfw,HI⟩:=hrel;clear hr2 hf2 HST2;have hdl:=HI.out.len;by_cases hlt2:r+1 < N2
     ·have hri:(r:Int)+1 < (N2:Int):=by omega
      have hj:m+1+r+1 < l.length:=by omega
      have hj1:d[m+1+r+1]'(by omega)=l[m+1+r+1]:=by
       have:=HI.out.suf (m+1+r+1) (by omega);rw[gqE (by omega),gqE hj] at this;exact sJ this
      have hj2:d[m+1+r]'(by omega)=l[m+1+r]'(by omega):=by
       have:=HI.out.suf (m+1+r) (by omega);rw[gqE (by omega),gqE (by omega)] at this;exact sJ this
      have y:=hrw.at (show m+1+r+1 < d.length by omega)
      have z:=hrw.at (show m+1+r < d.length by omega)
      rw[hj1,show (m+1+r+1)*2=(m+1)*2+(r+1)*2 by omega] at y;rw[hj2,show (m+1+r)*2=(m+1)*2+r*2 by omega] at z;obtain ⟨y0,y1⟩:=y;obtain ⟨z0,z1⟩:=z;have hfz:=hrw.free;obtain ⟨t0,t1⟩:=hrw.at (show k+1 < d.length by omega)
      have hwk:IntKind.i64.wrap (r:Int)=(r:Int):=IntWalk.i64_in _ (by omega);have hwk2:IntKind.i64.wrap ((k:Int)+1+1)=(k:Int)+1+1:=IntWalk.i64_in _ (by omega);have hmi:(r:Int) < (N2:Int):=by omega
      have hkl:(k:Int)+1 < (l.length:Int):=by omega
      have heq:∀ W,(Op.equalIn 10000 78 (.agg #[.int .i64 (l[m+1+r+1]'(by omega)).el,.int .i64 (l[m+1+r+1]'(by omega)).pos]) (.agg #[.int .i64 (l[m+1+r]'(by omega)).el,.int .i64 (l[m+1+r]'(by omega)).pos])).run Tryz.prog W=.ok (decide ((l[m+1+r+1]'(by omega))=(l[m+1+r]'(by omega)))) W:=fun W=>y55 W 9998 _ _
      have HSO:=hE (show j7i (l[m+1+r+1]'(by omega)) by rw[←hj1];exact hrw.parts.1 _ (uE _))
      cases hd:decide ((l[m+1+r+1]'(by omega))=(l[m+1+r]'(by omega))) with
      | true=>
       have HX:=hE (HI.out.keep hj (oDt hd));rw[hd] at heq;clear hd HI hj1 hj2 HSO;generalize (l[m+1+r+1]'(by omega))=p at *;generalize (l[m+1+r]'(by omega))=q at *;go_wp2_with fail
       (refine wp_region_quiet_lit (by kernel_rfl) (by kernel_rfl) ?_;(repeat (any_goals (first | go_big_quiet_step (fail) | quiet_step (fail) | (refine wpQuiet_step (fun K hK=>?_);go_simp;split <;> (refine hK _ ?_;clear hK K)))));all_goals (refine wpQuiet_nil ?_;intro _ hw';obtain ⟨nq,hw''⟩:=hw';subst hw''))
       all_goals (go_wp2_with fail)
       all_goals go_roundw
       case rel=>exact ⟨k,r+1,d,rfl,by go_num,by omega,by omega,hrw.drewN _,hfw.trans (Frm.of_below (Below.drewN bQ _)),HX⟩
       case measure=>simp[intOf];omega
      | false=>
       have HX:=hE (HI.out.put hj (of_decide_eq_false hd));have HR:=hE fun n=>(hrw.drewN n).put (k:=k+1) (x:=l[m+1+r+1]'(by omega)) (by omega) HSO.out
       have HF:=hE fun n=>(hrw.drewN n).k03 ((k+1)*2) (.int .i64 (l[m+1+r+1]'(by omega)).el) ((k+1)*2+1) (.int .i64 (l[m+1+r+1]'(by omega)).pos)
       rw[hd] at heq;clear hd HI hj1 hj2 HSO;generalize (l[m+1+r+1]'(by omega))=p at *;generalize (l[m+1+r]'(by omega))=q at *;go_wp2_with fail
       (refine wp_region_quiet_lit (by kernel_rfl) (by kernel_rfl) ?_;(repeat (any_goals (first | go_big_quiet_step (fail) | quiet_step (fail) | (refine wpQuiet_step (fun K hK=>?_);go_simp;split <;> (refine hK _ ?_;clear hK K)))));all_goals (refine wpQuiet_nil ?_;intro _ hw';obtain ⟨nq,hw''⟩:=hw';subst hw''))
       all_goals (go_wp2_with fail)
       all_goals go_roundw
       case rel=>exact ⟨k+1,r+1,_,by first | rfl | go_num,by go_num,by omega,by omega,HR.out _,(hfw.trans (Frm.of_below (Below.drewN bQ _))).trans (HF.out _),HX⟩
       case measure=>simp[intOf];omega
     ·have hNe:N2=r+1:=by omega
      obtain ⟨hN,hC⟩:=HNC.out;have hkd:k+1 < d.length:=by have:=HI.out.le;omega
      have hpre:=HI.out.pre;rw[tlL (show l.length≤m+1+r+1 by omega)] at hpre;have hcln:(z0v l).length=k+1:=by rw[←hpre,lTk];omega
      have hcl:∀ ty,(Builtin.clear_ #[53] ty #[.slice (some ⟨b,(k+1)*2,none⟩) (l.length - (k+1)) (cap - (k+1))]).run Tryz.prog wr=.ok (.tuple #[]) (wr.setCells b ((k+1)*2) (List.replicate ((l.length - (k+1))*2) (.int .i64 0))):=
       fun ty=>x1o wr ty b _ _ _ (by omega) (fun j hj=>hrw.isS (by omega)) (fun j hj=>hrw.free _)
      have hkl:(k:Int)+1≤(l.length:Int):=by omega
      have hkc:(k:Int)+1≤(cap:Int):=by omega
      have HFI:=hE (((hrw.pre (k+1) (by omega))).k02 (List.replicate ((l.length - (k+1))*2) (.int .i64 0)) ((k+1)*2) (by rw[lTk];omega));have HFF:=hE (hfw.trans (((hrw.pre (k+1) (by omega))).k04 (List.replicate ((l.length - (k+1))*2) (.int .i64 0)) ((k+1)*2) (by rw[lTk];omega)));have HCL:=hE hcln;rw[hpre] at HFI;have hri:¬(r:Int)+1 < (N2:Int):=by omega
      have hk3:k+1 < l.length:=by omega
      have hk4:k+1 < cap:=by omega
      have hk5:¬cap≤k+1:=by omega
      have hk6:¬cap - (k+1)=0:=by omega
      have hk7:(k:Int)+1 < (cap:Int):=by omega
      clear hpre hcln hrw hfw HI hnl hNe hN hC hdl hkd;go_wp2_with fail
      go_ret;exact ⟨by rw[HCL.out];rfl,HFI.out,HFF.out⟩
  ·have hm1:m+1=l.length:=by omega
   have HX:Hid (z0v l=l):=hE (by have h:=HK.out;rwa [hm1,List.take_length] at h);have hni:¬(m:Int)+1 < (l.length:Int):=by omega
   have HO:=hE hr;clear hr HK hm1;go_wp2_with fail
   go_ret;exact ⟨by rw[HX.out];rfl,by rw[HX.out];exact HO.out,hf⟩
end Go.Proofs.YtpenlfedkacglaaGreatDoor
namespace Go.Proofs.YtpenlfedkacglaaGreatDoor
open Go.RowKit
attribute [local go_sem] z05 z07 z01 z02
attribute [-go_sem] run_equalIn_agg
theorem x8q {k i o q:Int} (h:z2a k i o=some q):z0p q:=by
 have hm:=y97 h;have:∀ p∈z2i,0≤p.2.2.2∧p.2.2.2≤2:=by decide
 have:=this _ hm;dsimp only at this;exact ⟨by omega,by omega⟩
theorem x3l {α β:Type} {f:α→Option β} {l:List α} {k:Nat} (h:k < l.length):(l.take (k+1)).filterMap f=(l.take k).filterMap f++(match f l[k] with | some x=>[x] | none=>[]):=by
 rw[tqS h,List.filterMap_append];congr 1;cases hf:f l[k] <;> simp[List.filterMap_cons,hf]
theorem x51 {l:Lay} {s:Stp} {r:Option Int} (v:LV) (hv:v.l=l) (h:x1y l s=r) (w:World) (E:EnvR w) (hr:LvR w v):Calls Tryz.prog 98 #[.agg (z1c v),.agg #[.int .i64 s.el,.int .i64 s.inn,.int .i64 s.out]] w fun e w'=>e=.returned (.tuple #[.int .i64 (r.getD 0),.bool r.isSome])∧Below w.heap.size w w':=by
 subst hv h;exact y62 v s w E hr
theorem z3k:(Tryz.prog.info? 78).map (fun i=>(i.zero,i.size,i.bytes))=some (some (.agg #[.int .i64 0,.int .i64 0]),2,16):=by kernel_rfl
theorem j2y {l:Lay} {s:Stp} {p:Int} (h:x1y l s=some p):z2w l s.el=true∧z0p p:=by
 unfold x1y at h;split at h
 ·rename_i he;exact ⟨he,x8q h⟩
 ·cases h
theorem z8v (v:LV) (way:List Stp) (A:Option Addr) (cap:Nat) (w:World) (E:EnvR w) (hr:LvR w v) (hw:RdS z1h w (Lt w) A way) (hl:way.length≤1000):Calls Tryz.prog 48 #[lvA v,.slice A way.length cap] w (y35 z2x 78 w (z1a v.l way)):=by
 obtain ⟨i0,hi,hz0,hz1,hz2⟩:=info_parts z3k;have hbx:=Lx.new hr;have hn:=hr.n2.1;unfold maxLen at hn;unfold lvA;go_enter Tryz.func48,Tryz.ntmps48
 go_wp2_with fail;go_loopw [5,12] (fun a i wr=>∃ k:Nat,k≤way.length∧i=.int .i64 k∧z09 z2x wr w.heap.size 78 a ((way.take k).filterMap (y4k v.l)) 0∧Lx w wr v) (fun _ i _=>way.length - (intOf i).toNat)
 case atStart=>exact ⟨0,nZ,rfl,z09.nil _ _ _ _ nZ,hbx⟩
 case round=>
  obtain ⟨k,hkl,rfl,hown,hb⟩:=hrel;clear hbx;by_cases hlt:k < way.length
  ·have hki:(k:Int) < (way.length:Int):=by omega
   obtain ⟨b,off,hA,lb,ho,y0,y1,y2⟩:=(hw.now hb.bel).elT hlt;have hal:Below wr.heap.size wr (wr.alloc (.cells #[.int .i64 way[k].el,.int .i64 way[k].inn,.int .i64 way[k].out] 85)):=bQ.alloc nL _;have HS:=hE (x3l (f:=y4k v.l) hlt);have hfl:((way.take k).filterMap (y4k v.l)).length≤1000:=nR (List.length_filterMap_le _ _) (by rw[lTk];omega);rw[hA];clear hA;generalize way[k]=s at *;generalize (way.take k).filterMap (y4k v.l)=acc at *;obtain ⟨el,inn,out⟩:=s;dsimp only at *;obtain ⟨W1,hW1⟩:∃ W,W=wr.alloc (.cells #[.int .i64 el,.int .i64 inn,.int .i64 out] 85):=⟨_,rfl⟩
   have hs1:Blk W1 wr.heap.size 85 #[.int .i64 el,.int .i64 inn,.int .i64 out]:=by rw[hW1];exact Blk.new _ _ _ _ rfl
   rw[←hW1] at hal;have hb1:=hb.now hal;have hown1:=hown.now hal;have g0:=hb.x0;have g1:=hb.x1;have g2:=hb.x2;have g3:=hb.x3;have g4:=hb.x4;have g5:=hb.x5;have lg:=hb.lt;obtain ⟨r,hr2⟩:∃ r,x1y v.l ⟨el,inn,out⟩=r:=⟨_,rfl⟩
   have HP:=hE (x51 v rfl hr2 W1 (E.now hb1.bel) hb1.rd);have HR2:=hE hr2;have HI:=hE ho;dsimp only at HP;clear hown hb ho
   cases r with
   | none=>
    have HX:Hid ((way.take (k+1)).filterMap (y4k v.l)=acc):=hE (by rw[HS.out];unfold y4k;rw[hr2];simp);clear hr2 HS;dsimp only [Option.getD_none,Option.isSome_none] at HP;go_wp2_with fail
    rw[←hW1];refine HP.out.mono ?_;rintro e w3 ⟨rfl,hq⟩;have hb3:=hb1.now hq;have hown3:=hown1.now hq;clear hW1 g0 g1 g2 g3 g4 g5 lg y0 y1 y2 hown1 hb1 hs1 hq HP;go_wp2_with fail
    go_roundw
    case rel=>exact ⟨k+1,by omega,by go_num,by rw[HX.out];exact hown3,hb3⟩
    case measure=>simp[intOf];omega
   | some p=>
    obtain ⟨he,hp64⟩:=j2y hr2;dsimp only at he;obtain ⟨m,rfl,hmlt⟩:=z5a he;dsimp only [Option.getD_some,Option.isSome_some] at HP;have HY:Hid (y4k v.l ⟨(m:Int),inn,out⟩=if v.l.els[m].kind=2 then some ⟨(m:Int),p⟩ else none):=hE (by unfold y4k;rw[hr2];simp only[z5q hmlt]);clear hr2 he;go_wp2_with fail
    rw[←hW1];refine HP.out.mono ?_;rintro e w3 ⟨rfl,hq⟩;have hb3:=hb1.now hq;have hs3:=hs1.now hq;have hown3:=hown1.now hq;have hsz3:=hb3.bel.size;obtain ⟨b2,off2,hA2,lb2,ho2,q0,q1,q2,q3,q4,q5,q6⟩:=hb3.rd.r2.elE hmlt;have x2:=hb3.x2;rw[hA2] at x2;have z0:=hs3.cell 0;simp only[gqA,gqZ,gqS] at z0;have hmi:(m:Int) < (v.l.els.length:Int):=by omega
    have HO:Hid (z0p (m:Int)∧z0p p):=hE ⟨HI.out.1,hp64⟩;clear hA2 hW1 g0 g1 g2 g3 g4 g5 lg y0 y1 y2 q0 q2 q3 q4 q5 q6 ho2 hs1 hs3 hb1 hown1 hq HP hp64 HR2 HI;by_cases hkd:v.l.els[m].kind=2
    ·have HX:Hid ((way.take (k+1)).filterMap (y4k v.l)=acc++[⟨(m:Int),p⟩]):=hE (by rw[HS.out,HY.out,if_pos hkd]);have t1:(v.l.els[m].kind==2)=true:=by simpa using hkd
     clear HS HY hkd;generalize v.l.els[m].kind=kd at *;go_wp2_with (at_builtin;go_loud (refine z0h (c:=z2x) _ rfl _ _ 53 rfl w.heap.size 78 i0 _ 16 Tryz.underlying53 hi hz0 hz1 hz2 rfl (by decide) _ acc 0 rfl hown3 [.int .i64 m,.int .i64 p] ⟨(m:Int),p⟩ ⟨rfl,HO.out⟩ (by intro u hu;simp at hu;rcases hu with rfl | rfl <;> rfl) _ rfl (by omega) (by omega) (by omega) ?_);intro v' w7 hown7 hf7 hs7)
     go_roundw
     case rel=>exact ⟨k+1,by omega,by go_num,by rw[HX.out];exact hown7,hb3.frm hr hf7 (by decide)⟩
     case measure=>simp[intOf];omega
    ·have HX:Hid ((way.take (k+1)).filterMap (y4k v.l)=acc):=hE (by rw[HS.out,HY.out,if_neg hkd];simp);have t1:(v.l.els[m].kind==2)=false:=by simpa using hkd
     clear HS HY hkd;generalize v.l.els[m].kind=kd at *;go_wp2_with fail
     go_roundw
     case rel=>exact ⟨k+1,by omega,by go_num,by rw[HX.out];exact hown3,hb3⟩
     case measure=>simp[intOf];omega
  ·have HX:Hid ((way.take k).filterMap (y4k v.l)=way.filterMap (y4k v.l)):=hE (by rw[tlL (by omega)]);have hfl:((way.take k).filterMap (y4k v.l)).length≤1000:=nR (List.length_filterMap_le _ _) (by rw[lTk];omega);have hbb:=hb.bel;have hsz:=hbb.size;obtain ⟨A',c',hv⟩:=hown.form;rw[hv] at hown;have HF:=hE hv;have HSO:=hE (y0w 99 (enters_of Tryz.func99 (by kernel_rfl) rfl) x74 _ A' c' w.heap.size wr hown (by omega));clear hb;generalize (way.take k).filterMap (y4k v.l)=acc at *;subst hv;go_wp2_with fail
   refine HSO.out.mono ?_;rintro e w5 ⟨rfl,hown5,hf5⟩;have hb5:=hf5.keeps nL hsz hbb;have hpl:(z4l ltG acc).length=acc.length:=z9p;rw[←hpl] at hown5;have HCO:=hE (z8q _ A' c' w.heap.size w5 hown5 (by omega));rw[hpl] at HCO;clear hown hown5 hf5 HSO hpl;go_wp2_with fail
   refine HCO.out.mono ?_;rintro e w6 ⟨rfl,hown6,hf6⟩;have hb6:=hf6.keeps nL hb5.size hb5;go_wp2_with fail
   go_ret;exact z0x (by unfold z1a;rw[HX.out]) rfl hown6 hb6
end Go.Proofs.YtpenlfedkacglaaGreatDoor
namespace Go.Proofs.YtpenlfedkacglaaGreatDoor
open Go.RowKit Go.Shelf
attribute [local go_sem] z05 z07 z01 z02
attribute [-go_sem] run_equalIn_agg
theorem z7h {α:Type} {c:Cod α} (hc:Flat c) (hone:∀ {w:World} {S:Nat→Prop} {ys:List Value} {x:α},c.rd w S ys x→∀ u∈ys,u.oneCell' = true) {ρ:Ren} (L:SlLaysE0.n41 Tryz.prog ρ) (i0:TypeInfo) (z:Value) (bytes:Nat) (hi:Tryz.prog.info? (ρ.t 23)=some i0) (hz0:i0.zero=some z) (hz1:i0.size=c.size) (hz2:i0.bytes=bytes) (hzs:z.cells.size=c.size) (hsz:0 < c.size)
  (z23:∀ w,(Go.sizeOf (ρ.t 23)).run Tryz.prog w=.ok c.size w) (hby:bytes≤1000) (l:List α) (A:Option Addr) (cap:Nat) (w:World) (hA:∀ a,A=some a→a.spot=none) (hr:RdS c w (Lt w) A l) (hl:l.length≤100000) :
  Calls Tryz.prog (ρ.f 41) #[.slice A l.length cap] w fun e w'=>∃ v,e=.returned v∧z09 c w' w.heap.size (ρ.t 23) v l 0∧Below w.heap.size w w':=by
 cases A with
 | none=>
  have hl0:l=[]:=by
   by_cases h:0 < l.length
   ·obtain ⟨b,off,h1,-⟩:=hr h;cases h1
   ·exact List.eq_nil_of_length_eq_zero (by omega)
  subst hl0;refine (AnyE.slices_Clone_nil L _ cap w).mono ?_;rintro e w' ⟨rfl,rfl⟩
  exact ⟨_,rfl,z09.nil _ _ _ _ nZ,bQ⟩
 | some a=>
  obtain ⟨b,off,sp⟩:=a;have hsp:sp=none:=hA _ rfl;subst hsp;obtain ⟨news,hn,hcell⟩:=hr.cells;have hlen:=hn.len;refine (AnyE.slices_Clone L i0 z c.size bytes hi hz0 hz1 hz2 hzs hsz z23 b off l.length cap news w hlen (by unfold maxLen;omega) (nR (Nat.mul_le_mul hl hby) (by omega)) hcell (RdC.one (fun ys x h=>hone h) hn)).mono ?_;rintro e w' ⟨v',rfl,hown,-,hb⟩;exact ⟨v',rfl,⟨news,hown,(hn.keep fun p hp=>hb.cell hp).flat hc,nZ⟩,hb⟩
theorem z5n (l:List Stp) (A:Option Addr) (cap:Nat) (w:World) (hA:∀ a,A=some a→a.spot=none) (hr:RdS z1h w (Lt w) A l) (hl:l.length≤100000) :
  Calls Tryz.prog 34 #[.slice A l.length cap] w fun e w'=>∃ v,e=.returned v∧z09 z1h w' w.heap.size 85 v l 0∧Below w.heap.size w w':=by
 obtain ⟨i0,hi,hz0,hz1,hz2⟩:=info_parts z3d;exact z7h z4b (fun h u hu=>by obtain ⟨rfl,-⟩:=h;simp at hu;rcases hu with rfl | rfl | rfl <;> rfl) Tryz.layC34 i0 _ 24 hi hz0 hz1 hz2 rfl (by decide) Tryz.sizeOf85 (by omega) l A cap w hA hr hl
theorem y4x (l:List Stg) (A:Option Addr) (cap:Nat) (w:World) (hA:∀ a,A=some a→a.spot=none) (hr:RdS z2x w (Lt w) A l) (hl:l.length≤100000) :
  Calls Tryz.prog 35 #[.slice A l.length cap] w fun e w'=>∃ v,e=.returned v∧z09 z2x w' w.heap.size 78 v l 0∧Below w.heap.size w w':=by
 obtain ⟨i0,hi,hz0,hz1,hz2⟩:=info_parts z3k;exact z7h z9z (fun h u hu=>by obtain ⟨rfl,-⟩:=h;simp at hu;rcases hu with rfl | rfl <;> rfl) Tryz.layC35 i0 _ 16 hi hz0 hz1 hz2 rfl (by decide) Tryz.sizeOf78 (by omega) l A cap w hA hr hl
theorem z7j:(Tryz.prog.info? 90).map (fun i=>(i.zero,i.size,i.bytes))=some (some (.agg #[.int .i64 0,.int .i64 0]),2,16):=by kernel_rfl
theorem y4w (l:List z0o) (A:Option Addr) (cap:Nat) (w:World) (hA:∀ a,A=some a→a.spot=none) (hr:RdS y1z w (Lt w) A l) (hl:l.length≤100000) :
  Calls Tryz.prog 47 #[.slice A l.length cap] w fun e w'=>∃ v,e=.returned v∧z09 y1z w' w.heap.size 90 v l 0∧Below w.heap.size w w':=by
 obtain ⟨i0,hi,hz0,hz1,hz2⟩:=info_parts z7j;exact z7h z9x (fun h u hu=>by obtain ⟨rfl,-⟩:=h;simp at hu;rcases hu with rfl | rfl <;> rfl) Tryz.layC47 i0 _ 16 hi hz0 hz1 hz2 rfl (by decide) Tryz.sizeOf90 (by omega) l A cap w hA hr hl
theorem y8t {l:List Stp} (h:0 < l.length):l.getLastD zP=l[l.length - 1]:=by
 rw[List.getLastD_eq_getLast?,List.getLast?_eq_getElem?,gqE (by omega)];rfl
theorem y8u (l:List Stp) (A:Option Addr) (cap:Nat) (w:World) (hr:RdS z1h w (Lt w) A l) (h0:0 < l.length) (hl:l.length≤100000):Calls Tryz.prog 121 #[.slice A l.length cap] w fun e w'=>e=.returned (.agg #[.int .i64 (z3h l).el,.int .i64 (z3h l).sd])∧Below w.heap.size w w':=by
 obtain ⟨m,hm⟩:∃ m,l.length=m+1:=⟨l.length - 1,by omega⟩
 have hlast:l.getLastD zP=l[m]'(by omega):=by rw[y8t h0];congr 1;omega
 have HX:Hid (z3h l=⟨(l[m]'(by omega)).el,(l[m]'(by omega)).out⟩):=hE (by unfold z3h;rw[hlast]);obtain ⟨b,off,hA,lb,ho,y0,y1,y2⟩:=hr.elT (show m < l.length by omega);rw[HX.out,hA];generalize (l[m]'(by omega))=s at *;rw[hm];have hwk:IntKind.i64.wrap (m:Int)=(m:Int):=IntWalk.i64_in _ (by omega);have hlb:b < w.heap.size:=lb;clear hA hlast HX ho lb hr h0 hl hm;go_enter Tryz.func121,Tryz.ntmps121
 go_wp2_with fail;exact bodyPost_ret (v:=.agg #[.int .i64 s.el,.int .i64 s.out]) (by simp[results,Tryz.results121,go_sem]) rfl ⟨rfl,blz⟩
end Go.Proofs.YtpenlfedkacglaaGreatDoor
namespace Go.Proofs.YtpenlfedkacglaaGreatDoor
open Go.RowKit
attribute [local go_sem] z05 z07 z01 z02
attribute [-go_sem] run_equalIn_agg
theorem y9o {l:Lay} {r:Int} (v:LV) (i:Int) (hv:v.l=l) (h:z0d l i=r) (w:World) (hr:LvR w v):Calls Tryz.prog 18 #[.agg (z1c v),.int .i64 i] w fun e w'=>e=.returned (.int .i64 r)∧Below w.heap.size w w':=by
 subst hv h;exact z3c v i w hr
def FdB (w:World) (g:Nat) (v:LV) (pv:Value):Prop:=Blk w g 141 #[.string (bs v.l.name),.slice v.A1 v.l.secs.length v.c1,.slice v.A2 v.l.els.length v.c2,.slice v.A3 v.l.jts.length v.c3,.slice v.A4 v.l.sgs.length v.c4,.slice v.A5 v.l.bls.length v.c5,pv]
theorem FdB.x {w:World} {g:Nat} {v:LV} {pv:Value} (h:FdB w g v pv):w.cell? ⟨g,0,none⟩=some (.string (bs v.l.name))∧w.cell? ⟨g,1,none⟩=some (.slice v.A1 v.l.secs.length v.c1)∧w.cell? ⟨g,2,none⟩=some (.slice v.A2 v.l.els.length v.c2)∧w.cell? ⟨g,3,none⟩=some (.slice v.A3 v.l.jts.length v.c3)∧w.cell? ⟨g,4,none⟩=some (.slice v.A4 v.l.sgs.length v.c4)∧w.cell? ⟨g,5,none⟩=some (.slice v.A5 v.l.bls.length v.c5)∧w.cell? ⟨g,6,none⟩=some pv:=
 ⟨Blk.cell h 0,Blk.cell h 1,Blk.cell h 2,Blk.cell h 3,Blk.cell h 4,Blk.cell h 5,Blk.cell h 6⟩
theorem x4l {l:Lay} {path:List Stp} {el:Int} {k:Nat} (h:k < path.length) {b:Bool} (h1:z6s l path el k=b) (h2:(List.range k).all (z6s l path el)=true):(b=false→y1o l path el=false)∧(b=true→(List.range (k+1)).all (z6s l path el)=true):=by
 refine ⟨fun hb=>?_,fun hb=>?_⟩
 ·unfold y1o;rw[List.all_eq_false];exact ⟨k,List.mem_range.2 h,by rw[h1,hb];simp⟩
 ·rw[List.range_succ,List.all_append,h2];simp[h1,hb]
theorem x8y {l:Lay} {path:List Stp} {el:Int} {k:Nat} (h:k < path.length):z6s l path el k=(!decide (path[k].el=el) && !(decide (0 < k) && (decide (z0d l (path.getD (k - 1) zP).el=z0d l el) && !decide (z0d l path[k].el=z0d l el)))):=by
 unfold z6s;rw[show path.getD k zP=path[k] by simp[List.getD,h]]
theorem open_any (v:LV) (gf:Nat) (pv:Value) (path:List Stp) (A:Option Addr) (cap:Nat) (el:Int) (w:World) (hf:FdB w gf v pv) (hr:LvR w v) (hw:RdS z1h w (Lt w) A path) (hl:path.length≤1000):Calls Tryz.prog 119 #[.pointer (some ⟨gf,0,none⟩),.slice A path.length cap,.int .i64 el] w fun e w'=>e=.returned (.bool (y1o v.l path el))∧Below w.heap.size w w':=by
 obtain ⟨x0,x1,x2,x3,x4,x5,x6⟩:=hf.x;have lgf:=Blk.lt hf;obtain ⟨z,hz⟩:∃ z,z0d v.l el=z:=⟨_,rfl⟩
 have HZ:=hE hz;have HS:=hE (y9o v el rfl hz w hr);have HSC:=hE fun (i r:Int) (h:z0d v.l i=r) W hr=>y9o v i rfl h W hr
 clear hz x6;go_enter Tryz.func119,Tryz.ntmps119
 go_wp2_with fail;refine HS.out.mono ?_;rintro e w1 ⟨rfl,hq1⟩;have hf1:FdB w1 gf v pv:=Blk.now hf hq1;have hr1:=hr.now hq1;have hw1:=hw.now hq1;have hs1:=hq1.size;clear HS x0 x1 x2 x3 x4 x5;go_wp2_with fail
 go_loopw [18] (fun i wr=>∃ k:Nat,k≤path.length∧i=.int .i64 k∧Below w1.heap.size w1 wr∧Hid ((List.range k).all (z6s v.l path el)=true)) (fun i _=>path.length - (intOf i).toNat)
 case atStart=>exact ⟨0,nZ,rfl,bQ,hE rfl⟩
 case round=>
  obtain ⟨k,hk,rfl,hb,HK⟩:=hrel;have hsz:=hb.size;have hbb:=z00 hq1 hs1 hb;by_cases hlt:k < path.length
  ·have hki:(k:Int) < (path.length:Int):=by omega
   obtain ⟨b,off,hA,lb,ho,y0,y1,y2⟩:=(hw1.now hb).elT hlt;have HO1:=hE (x8y (l:=v.l) (el:=el) hlt);have HST:=hE fun (b:Bool) (h:z6s v.l path el k=b)=>x4l hlt h HK.out
   have hf2:FdB wr gf v pv:=Blk.now hf1 hb;have hr2:=hr1.now hb;have HPV:Hid (∀ _:0 < k,wr.cell? ⟨b,off+(k - 1)*3,none⟩=some (.int .i64 (path.getD (k - 1) zP).el)):=hE fun h0=>by
    obtain ⟨b',off',hA',-,-,u0,-,-⟩:=(hw1.now hb).elT (show k - 1 < path.length by omega);rw[hA] at hA';simp only[qE,Addr.mk.injEq,and_true] at hA';obtain ⟨rfl,rfl⟩:=hA';rw[show path.getD (k - 1) zP=path[k - 1]'(by omega) by simp[List.getD,show k - 1 < path.length by omega]];exact u0
   have lb':b < wr.heap.size:=lb;rw[hA];clear hA ho HK;generalize (path.getD (k - 1) zP).el=pel at *;generalize path[k]=s at *;obtain ⟨sel,sin,sout⟩:=s;dsimp only at *;by_cases he:sel=el
   ·have HX:=hE ((HST.out false (by rw[HO1.out];simp[he])).1 rfl);have t1:(sel==el)=true:=by simpa using he
    clear HO1 HST HPV he;go_wp2_with fail
    go_ret;exact ⟨z0a HX.out.symm,hbb.alloc hbb.size _⟩
   have t1:(sel==el)=false:=by simpa using he
   obtain ⟨W1,hW1⟩:∃ W,W=wr.alloc (.cells #[.int .i64 sel,.int .i64 sin,.int .i64 sout] 85):=⟨_,rfl⟩
   have hal:Below wr.heap.size wr W1:=by rw[hW1];exact bQ.alloc nL _
   have hs3:Blk W1 wr.heap.size 85 #[.int .i64 sel,.int .i64 sin,.int .i64 sout]:=by rw[hW1];exact Blk.new _ _ _ _ rfl
   have hf3:FdB W1 gf v pv:=Blk.now hf2 hal;have hr3:=hr2.now hal;have hb3:=z00 hb hsz hal;have hbz:=z00 hbb hbb.size hal;obtain ⟨x0,x1,x2,x3,x4,x5,-⟩:=hf3.x;have lgf3:=Blk.lt hf3;have ls3:=hs3.lt;have q0:=hs3.cell 0;simp only[gqA,gqZ,gqS] at q0;clear hs3 hf2 hr2 hbb hf3;by_cases h0:k=0
   ·have HX:=hE ((HST.out true (by rw[HO1.out];simp[he,h0])).2 rfl);have hz0':decide ((0:Int) < (k:Int))=false:=by simp;omega
    have hz0n:decide (0 < k)=false:=by simp;omega
    clear HO1 HST HPV he h0;go_wp2_with fail
    rw[←hW1];clear hW1;refine rgH 28 (S:=(fun w'=>Below W1.heap.size W1 w')) (bQ.drew) fun hHeld=>?_
    refine tkM 28 [0,1,2,3,4,5,6,7,8,9,10,11,12,13,14,15,16,17,18,19,20,21,22,23,24,25,26,27] ?_;refine wdn ?_;go_wp2_with fail
    go_roundw
    case rel=>exact ⟨k+1,by omega,by go_num,hb3.drew,HX⟩
    case measure=>simp[intOf];omega
   have hk0:(0:Int) < (k:Int):=by omega
   have hz0':decide ((0:Int) < (k:Int))=true:=by simp;omega
   have hz0n:decide (0 < k)=true:=by simp;omega
   have hk1:0 < k:=by omega
   have hwk:IntKind.i64.wrap ((k:Int) - 1)=(k:Int) - 1:=IntWalk.i64_in _ (by omega);have hz1:(1:Int)≤(k:Int):=by omega
   have hz4:(0:Int)≤(k:Int) - 1:=by omega
   have hkm:(k:Int) - 1 < (path.length:Int):=by omega
   have hkt:((k:Int) - 1).toNat=k - 1:=by omega
   have p0:=(hal.cell (p:=⟨b,off+(k - 1)*3,none⟩) lb').trans (HPV.out (by omega));have lb3:b < W1.heap.size:=nT lb' hal.size;obtain ⟨a,ha⟩:∃ a,z0d v.l pel=a:=⟨_,rfl⟩
   obtain ⟨c,hc⟩:∃ c,z0d v.l sel=c:=⟨_,rfl⟩
   have HCA:=hE fun W hr=>HSC.out pel a ha W hr
   have HCC:=hE fun W hr=>HSC.out sel c hc W hr
   have HE:Hid (z6s v.l path el k = !(decide (a=z) && !decide (c=z))):=hE (by rw[HO1.out,ha,hc,HZ.out];simp[he,show 0 < k by omega]);clear HO1 HPV ha hc he;have HSS:Hid (∀ W,Below W1.heap.size W1 W→(fun w'=>w'.cell? ⟨gf,0,none⟩=some (.string (bs v.l.name))∧w'.cell? ⟨gf,1,none⟩=some (.slice v.A1 v.l.secs.length v.c1)∧w'.cell? ⟨gf,2,none⟩=some (.slice v.A2 v.l.els.length v.c2)∧w'.cell? ⟨gf,3,none⟩=some (.slice v.A3 v.l.jts.length v.c3)∧w'.cell? ⟨gf,4,none⟩=some (.slice v.A4 v.l.sgs.length v.c4)∧w'.cell? ⟨gf,5,none⟩=some (.slice v.A5 v.l.bls.length v.c5)∧w'.cell? ⟨b,off+(k - 1)*3,none⟩=some (.int .i64 pel)∧w'.cell? ⟨wr.heap.size,0,none⟩=some (.int .i64 sel)∧Below W1.heap.size W1 w') W):=hE fun W h=>⟨(h.cell (p:=⟨gf,0,none⟩) lgf3).trans x0,(h.cell (p:=⟨gf,1,none⟩) lgf3).trans x1,(h.cell (p:=⟨gf,2,none⟩) lgf3).trans x2,(h.cell (p:=⟨gf,3,none⟩) lgf3).trans x3,(h.cell (p:=⟨gf,4,none⟩) lgf3).trans x4,(h.cell (p:=⟨gf,5,none⟩) lgf3).trans x5,(h.cell (p:=⟨b,off+(k - 1)*3,none⟩) lb3).trans p0,(h.cell (p:=⟨wr.heap.size,0,none⟩) ls3).trans q0,h⟩
   clear x0 x1 x2 x3 x4 x5 p0 q0;by_cases hac:a=z;case neg=>
    have HX:=hE ((HST.out true (by rw[HE.out];simp[hac])).2 rfl);have t5:(a==z)=false:=by simpa using hac
    clear HST HE hac;go_wp2_with fail
    rw[←hW1];clear hW1;refine rgS 28 HSS fun hHeld=>?_
    refine tkM 14 [0,1,2,3,4,5,6,7,8,9,10,11,12,14] ?_;refine rd1 13 rfl fun K hK=>?_
    go_simp;go_at_call 18
    refine (HCA.out _ (hr3.now bQ.drew)).mono ?_;rintro e wq ⟨rfl,hqq⟩;have hbq:Below W1.heap.size W1 wq:=bQ.drew.trans hqq;go_wp2_with fail
    refine hK.out _ _ (HSS.out _ hbq) (fun hHeld=>?_);clear hK K;try simp only[Act.put,lsa,lsz,lss]
    refine tkM 13 [15,16,17,18,19,20,21,22,23,24,25,26,27] ?_;refine wdn ?_;have hfin:=hbz.trans (hbq.mono hbz.size);go_wp2_with fail
    go_roundw
    case rel=>exact ⟨k+1,by omega,by go_num,z00 hb3 hb3.size hbq,HX⟩
    case measure=>simp[intOf];omega
   case pos=>
    by_cases hcc:c=z;case pos=>
     have HX:=hE ((HST.out true (by rw[HE.out];simp[hac,hcc])).2 rfl);have t5:(a==z)=true:=by simpa using hac
     have t6:(c != z)=false:=by simpa using hcc
     clear HST HE hac hcc;go_wp2_with fail
     rw[←hW1];clear hW1;refine rgS 28 HSS fun hHeld=>?_
     refine tkM 14 [0,1,2,3,4,5,6,7,8,9,10,11,12,14] ?_;refine rd1 13 rfl fun K hK=>?_
     go_simp;go_at_call 18
     refine (HCA.out _ (hr3.now bQ.drew)).mono ?_;rintro e wq ⟨rfl,hqq⟩;have hbq:Below W1.heap.size W1 wq:=bQ.drew.trans hqq;go_wp2_with fail
     refine hK.out _ _ (HSS.out _ hbq) (fun hHeld=>?_);clear hK K;try simp only[Act.put,lsa,lsz,lss]
     refine tkM 10 [15,16,17,18,19,20,21,22,23,25] ?_;refine rd1 24 rfl fun K hK=>?_
     go_simp;go_at_call 18
     refine (HCC.out _ (hr3.now hbq)).mono ?_;rintro e wp ⟨rfl,hqp⟩;have hbp:Below W1.heap.size W1 wp:=z00 hbq hbq.size hqp;go_wp2_with fail
     refine hK.out _ _ (HSS.out _ hbp) (fun hHeld=>?_);clear hK K;try simp only[Act.put,lsa,lsz,lss]
     refine tkM 2 [26,27] ?_;refine wdn ?_;have hfin:=hbz.trans (hbp.mono hbz.size);go_wp2_with fail
     go_roundw
     case rel=>exact ⟨k+1,by omega,by go_num,z00 hb3 hb3.size hbp,HX⟩
     case measure=>simp[intOf];omega
    case neg=>
     have HX:=hE ((HST.out false (by rw[HE.out];simp[hac,hcc])).1 rfl);have t5:(a==z)=true:=by simpa using hac
     have t6:(c != z)=true:=by simpa using hcc
     clear HST HE hac hcc;go_wp2_with fail
     rw[←hW1];clear hW1;refine rgS 28 HSS fun hHeld=>?_
     refine tkM 14 [0,1,2,3,4,5,6,7,8,9,10,11,12,14] ?_;refine rd1 13 rfl fun K hK=>?_
     go_simp;go_at_call 18
     refine (HCA.out _ (hr3.now bQ.drew)).mono ?_;rintro e wq ⟨rfl,hqq⟩;have hbq:Below W1.heap.size W1 wq:=bQ.drew.trans hqq;go_wp2_with fail
     refine hK.out _ _ (HSS.out _ hbq) (fun hHeld=>?_);clear hK K;try simp only[Act.put,lsa,lsz,lss]
     refine tkM 10 [15,16,17,18,19,20,21,22,23,25] ?_;refine rd1 24 rfl fun K hK=>?_
     go_simp;go_at_call 18
     refine (HCC.out _ (hr3.now hbq)).mono ?_;rintro e wp ⟨rfl,hqp⟩;have hbp:Below W1.heap.size W1 wp:=z00 hbq hbq.size hqp;go_wp2_with fail
     refine hK.out _ _ (HSS.out _ hbp) (fun hHeld=>?_);clear hK K;try simp only[Act.put,lsa,lsz,lss]
     refine tkM 2 [26,27] ?_;refine wdn ?_;have hfin:=hbz.trans (hbp.mono hbz.size);go_wp2_with fail
     go_ret;exact ⟨z0a HX.out.symm,hfin⟩
  ·have HX:Hid (y1o v.l path el=true):=hE (by unfold y1o;rw[show path.length=k by omega];exact HK.out);go_wp2_with fail
   go_ret;exact ⟨z0a HX.out.symm,hbb⟩
end Go.Proofs.YtpenlfedkacglaaGreatDoor
namespace Go.Proofs.YtpenlfedkacglaaGreatDoor
open Go.RowKit
def cRS:Cod RSt where
 size:=3
 rd:=fun _ _ cs x=>cs=[.int .i64 x.st,.int .i64 x.rel,.int .i64 x.tim]∧(z0p x.st∧z0p x.rel∧z0p x.tim)
 fit:=fun _=>True
 len:=fun h=>by rw[h.1];rfl
 keep:=fun h _=>h
 more:=fun h _=>h
theorem RdS.elX {w:World} {S:Nat→Prop} {A:Option Addr} {l:List RSt} (h:RdS cRS w S A l) {i:Nat} (hi:i < l.length):∃ b off,A=some ⟨b,off,none⟩∧S b∧(z0p l[i].st∧z0p l[i].rel∧z0p l[i].tim)∧w.cell? ⟨b,off+i*3,none⟩=some (.int .i64 l[i].st)∧w.cell? ⟨b,off+i*3+1,none⟩=some (.int .i64 l[i].rel)∧w.cell? ⟨b,off+i*3+2,none⟩=some (.int .i64 l[i].tim):=by
 obtain ⟨b,off,h1,h2,h3⟩:=h (by omega);obtain ⟨ys,⟨rfl,h4⟩,h5⟩:=h3 i l[i] (gqE hi);exact ⟨b,off,h1,h2,h4,h5 0 _ rfl,h5 1 _ rfl,h5 2 _ rfl⟩
theorem RdS.x79 {w:World} {S:Nat→Prop} {A:Option Addr} {l:List Bool} (h:RdS cB w S A l) {i:Nat} (hi:i < l.length):∃ b off,A=some ⟨b,off,none⟩∧S b∧w.cell? ⟨b,off+i,none⟩=some (.bool l[i]):=by
 obtain ⟨b,off,h1,h2,h3⟩:=h (by omega);obtain ⟨ys,rfl,h5⟩:=h3 i l[i] (gqE hi);have:=h5 0 _ rfl;have e:off+i*cB.size+0=off+i:=by simp[cB]
 rw[e] at this;exact ⟨b,off,h1,h2,this⟩
section
variable {g:Nat} {w w':World} {v:z1w}
end
structure z1r where
 i:Itr
 A1:Option Addr
 A2:Option Addr
 c1:Nat
 c2:Nat
abbrev z1v (v:z1r):Array Value:=#[.slice v.A1 v.i.rts.length v.c1,.slice v.A2 v.i.lies.length v.c2]
structure y1j (w:World) (v:z1r):Prop where
 r1:RdS cRS w (Lt w) v.A1 v.i.rts
 r2:RdS cI w (Lt w) v.A2 v.i.lies
 n1:v.i.rts.length≤maxLen∧v.i.rts.length≤v.c1
 n2:v.i.lies.length≤maxLen∧v.i.lies.length≤v.c2
theorem y1j.now {w w':World} {v:z1r} (h:y1j w v) (hb:Below w.heap.size w w'):y1j w' v:=⟨h.r1.now hb,h.r2.now hb,h.n1,h.n2⟩
section
variable {g:Nat} {w w':World} {v:z1r}
end
structure z3n where
 i:Inp
 A1:Option Addr
 A2:Option Addr
 A3:Option Addr
 A4:Option Addr
 A5:Option Addr
 A6:Option Addr
 A7:Option Addr
 c1:Nat
 c2:Nat
 c3:Nat
 c4:Nat
 c5:Nat
 c6:Nat
 c7:Nat
abbrev z3t (v:z3n):Array Value:=#[.slice v.A1 v.i.occ.length v.c1,.slice v.A2 v.i.det.length v.c2,.slice v.A3 v.i.clo.length v.c3,.slice v.A4 v.i.cla.length v.c4,.slice v.A5 v.i.pas.length v.c5,.slice v.A6 v.i.calls.length v.c6,.slice v.A7 v.i.cans.length v.c7]
def k05 (v:z3n):List Value:=[.slice v.A1 v.i.occ.length v.c1,.slice v.A2 v.i.det.length v.c2,.slice v.A3 v.i.clo.length v.c3,.slice v.A4 v.i.cla.length v.c4,.slice v.A5 v.i.pas.length v.c5,.slice v.A6 v.i.calls.length v.c6,.slice v.A7 v.i.cans.length v.c7]
structure y1d (w:World) (v:z3n):Prop where
 r1:RdS cB w (Lt w) v.A1 v.i.occ
 r2:RdS cI w (Lt w) v.A2 v.i.det
 r3:RdS cB w (Lt w) v.A3 v.i.clo
 r4:RdS cB w (Lt w) v.A4 v.i.cla
 r5:RdS cB w (Lt w) v.A5 v.i.pas
 r6:RdS cI w (Lt w) v.A6 v.i.calls
 r7:RdS cI w (Lt w) v.A7 v.i.cans
 n1:v.i.occ.length≤maxLen∧v.i.occ.length≤v.c1
 n2:v.i.det.length≤maxLen∧v.i.det.length≤v.c2
 n3:v.i.clo.length≤maxLen∧v.i.clo.length≤v.c3
 n4:v.i.cla.length≤maxLen∧v.i.cla.length≤v.c4
 n5:v.i.pas.length≤maxLen∧v.i.pas.length≤v.c5
 n6:v.i.calls.length≤maxLen∧v.i.calls.length≤v.c6
 n7:v.i.cans.length≤maxLen∧v.i.cans.length≤v.c7
theorem y1d.now {w w':World} {v:z3n} (h:y1d w v) (hb:Below w.heap.size w w'):y1d w' v:=⟨h.r1.now hb,h.r2.now hb,h.r3.now hb,h.r4.now hb,h.r5.now hb,h.r6.now hb,h.r7.now hb,h.n1,h.n2,h.n3,h.n4,h.n5,h.n6,h.n7⟩
structure j4l (g:Nat) (v:z3n) (w:World):Prop where
 blk:Blk w g 49 (z3t v)
 rd:y1d w v
section
variable {g:Nat} {w w':World} {v:z3n}
theorem j4l.new (h:y1d w v):j4l w.heap.size v (w.alloc (.cells (z3t v) 49)):=⟨Blk.new _ _ _ _ rfl,h.now (bQ.alloc nL _)⟩
theorem j4l.x0 (h:j4l g v w):w.cell? ⟨g,0,none⟩=some (.slice v.A1 v.i.occ.length v.c1):=h.blk.cell 0
end
end Go.Proofs.YtpenlfedkacglaaGreatDoor
namespace Go.Proofs.YtpenlfedkacglaaGreatDoor
open Go.RowKit
attribute [local go_sem] z05 z07 z01 z02
attribute [-go_sem] run_equalIn_agg
theorem y80 {l:List Bool} {n:Int} (h:n < 0):z2t l n=true:=by unfold z2t;rw[dTt h];rfl
theorem y81 {l:List Bool} {n:Int} (h0:¬n < 0) (h:¬n < l.length):z2t l n=true:=by
 unfold z2t;have:l[n.toNat]? = none:=List.getElem?_eq_none (by omega);simp[List.getD,this]
theorem x5c {l:List Bool} {k:Nat} (h:k < l.length):z2t l (k:Int)=l[k]:=by
 unfold z2t;rw[dFf (by omega),Bool.false_or];simp[h]
theorem z5w (l:List Bool) (n:Int) (A:Option Addr) (cap:Nat) (w:World) (hr:RdS cB w (Lt w) A l) (hl:l.length≤maxLen):Calls Tryz.prog 111 #[.slice A l.length cap,.int .i64 n] w fun e w'=>e=.returned (.bool (z2t l n))∧Below w.heap.size w w':=by
 unfold maxLen at hl;by_cases h0:n < 0
 ·have HX:=hE (y80 (l:=l) h0);go_enter Tryz.func111,Tryz.ntmps111
  go_wp2_with fail;go_ret
  exact ⟨z0a HX.out.symm,bQ⟩
 by_cases h1:n < l.length
 ·obtain ⟨k,rfl⟩:∃ k:Nat,n=k:=⟨n.toNat,by omega⟩
  have hk:k < l.length:=by omega
  have HX:Hid ((decide (l.length≤k) || l[k])=z2t l (k:Int)):=hE (by rw[dFf (by omega),x5c hk];rfl);obtain ⟨b,off,rfl,lb,y0⟩:=hr.x79 hk;go_enter Tryz.func111,Tryz.ntmps111
  go_wp2_with fail;go_ret
  exact ⟨z0a HX.out,bQ⟩
 ·have HX:=hE (y81 h0 h1);go_enter Tryz.func111,Tryz.ntmps111
  go_wp2_with fail;go_ret
  exact ⟨z0a HX.out.symm,bQ⟩
theorem z1q (v:z3n) (n:Int) (w:World) (hr:y1d w v):Calls Tryz.prog 110 #[.agg (z3t v),.int .i64 n] w fun e w'=>e=.returned (.bool (z2t v.i.occ n))∧Below w.heap.size w w':=by
 have hbx:=j4l.new hr;have hbel:Below w.heap.size w (w.alloc (.cells (z3t v) 49)):=bQ.alloc nL _;have x0:=hbx.x0;have hl:=hr.n1.1;unfold maxLen at hl;by_cases h0:n < 0
 ·have HX:=hE (y80 (l:=v.i.occ) h0);go_enter Tryz.func110,Tryz.ntmps110
  go_wp2_with fail;go_ret
  exact ⟨z0a HX.out.symm,hbel⟩
 by_cases h1:n < v.i.occ.length
 ·obtain ⟨k,rfl⟩:∃ k:Nat,n=k:=⟨n.toNat,by omega⟩
  have hk:k < v.i.occ.length:=by omega
  have HX:Hid ((decide (v.i.occ.length≤k) || v.i.occ[k])=z2t v.i.occ (k:Int)):=hE (by rw[dFf (by omega),x5c hk];rfl);obtain ⟨b,off,hA,lb,y0⟩:=hbx.rd.r1.x79 hk;unfold z3t at ⊢;rw[hA] at x0 ⊢;unfold z3t at y0;rw[hA] at y0;go_enter Tryz.func110,Tryz.ntmps110
  go_wp2_with fail;go_ret
  exact ⟨z0a HX.out,hA▸hbel⟩
 ·have HX:=hE (y81 h0 h1);go_enter Tryz.func110,Tryz.ntmps110
  go_wp2_with fail;go_ret
  exact ⟨z0a HX.out.symm,hbel⟩
theorem y8n (v:z3n) (n:Int) (w:World) (hr:y1d w v):Calls Tryz.prog 11 #[.agg (z3t v),.int .i64 n] w fun e w'=>e=.returned (.bool (!z2t v.i.occ n))∧Below w.heap.size w w':=by
 have hbx:=j4l.new hr;have hbel:Below w.heap.size w (w.alloc (.cells (z3t v) 49)):=bQ.alloc nL _;have x0:=hbx.x0;have hl:=hr.n1.1;unfold maxLen at hl;by_cases h0:n < 0
 ·have HX:=hE (congrArg (! ·) (y80 (l:=v.i.occ) h0));have h0':¬0≤n:=by omega
  clear h0;go_enter Tryz.func11,Tryz.ntmps11
  go_wp2_with fail;go_ret
  exact ⟨z0a HX.out.symm,hbel⟩
 have h0':0≤n:=by omega
 by_cases h1:n < v.i.occ.length
 ·obtain ⟨k,rfl⟩:∃ k:Nat,n=k:=⟨n.toNat,by omega⟩
  have hk:k < v.i.occ.length:=by omega
  have HX:=hE (congrArg (! ·) (x5c hk));obtain ⟨b,off,hA,lb,y0⟩:=hbx.rd.r1.x79 hk;unfold z3t at ⊢;rw[hA] at x0 ⊢;unfold z3t at y0;rw[hA] at y0;go_enter Tryz.func11,Tryz.ntmps11
  go_wp2_with fail;go_ret
  exact ⟨z0a HX.out.symm,hA▸hbel⟩
 ·have HX:=hE (congrArg (! ·) (y81 h0 h1));clear h0;go_enter Tryz.func11,Tryz.ntmps11
  go_wp2_with fail;go_ret
  exact ⟨z0a HX.out.symm,hbel⟩
theorem y08 (a b:z2v) (w:World) (ha:RvR w (Lt w) a) (hb:RvR w (Lt w) b):Calls Tryz.prog 104 #[.agg (z0e a),.agg (z0e b)] w fun e w'=>e=.returned (.bool (x1w a.r b.r))∧Below w.heap.size w w':=by
 have hbel:Below w.heap.size w ((w.alloc (.cells (z0e a) 56)).alloc (.cells (z0e b) 56)):=(bQ.alloc nL _).alloc (by simp) _;go_enter Tryz.func104,Tryz.ntmps104
 go_wp2_with fail;all_goals go_ret
 all_goals refine ⟨z0a ?_,hbel⟩
 all_goals unfold x1w
 ·simp_all [Bool.beq_eq_decide_eq]
 ·rw[dFf (by omega)];rfl
end Go.Proofs.YtpenlfedkacglaaGreatDoor
