import Derived.Test.YtpenlfedkacglaaGreatDoorR15
import Derived.Maps.OwnOps
set_option maxRecDepth 100000
set_option maxHeartbeats 40000000
set_option linter.all false
namespace Go.Proofs.YtpenlfedkacglaaGreatDoor
open Go.RowKit
open Go.Maps (Keyed IsMap)
theorem x3b (n:Int) (h:-9223372036854775808≤n∧n≤9223372036854775807):(Lib.itoa n).length≤21:=by
 have h1:∀ u:Nat,u≤9223372036854775808→(Lib.decDigits u).length≤20:=fun u hu=>by rw[Lib.decDigits_length];exact Lib.nDigits_le20 u (by omega)
 unfold Lib.itoa;split
 ·have:=h1 n.natAbs (by omega);simp only[lCn];omega
 ·have:=h1 n.toNat (by omega)
  omega
def nmd (r:Rou) (c:Nat):Rou:=if c=0 then r else { r with name:=r.name++46::Lib.itoa ((c+1:Nat):Int) }
def y4n (L:List Rou) (k:Nat) (x:List UInt8):Nat:=((L.take k).map Rou.name).count x
theorem y2l:∀ (L:List Rou) (seen:List (List UInt8)) (r:Rou),z1l seen (L++[r])=z1l seen L++[nmd r (seen.count r.name+(L.map Rou.name).count r.name)]
 | [],seen,r=>by simp[z1l,nmd]
 | a::L,seen,r=>by
  have ih:=y2l L (a.name::seen) r;simp only[List.cons_append,z1l,List.map_cons];rw[ih,show (a.name::seen).count r.name+(L.map Rou.name).count r.name=seen.count r.name+(a.name::L.map Rou.name).count r.name by rw[List.count_cons,List.count_cons];omega]
theorem x0t {L:List Rou} {k:Nat} (h:k < L.length):z1l [] (L.take (k+1))=z1l [] (L.take k)++[nmd L[k] (y4n L k L[k].name)]:=by
 rw[tqS h,y2l];simp[y4n]
theorem z5u:∀ (L:List Rou) (seen:List (List UInt8)),(z1l seen L).length=L.length
 | [],_=>rfl
 | a::L,seen=>by simp[z1l,z5u L]
theorem x2f {L:List Rou} {k:Nat} (h:k < L.length) (x:List UInt8):y4n L (k+1) x=if x=L[k].name then y4n L k x+1 else y4n L k x:=by
 unfold y4n;rw[tqS h,List.map_append,List.count_append,List.map_cons,List.map_nil,List.count_singleton];by_cases hx:x=L[k].name
 ·rw[if_pos hx,hx];simp
 ·rw[if_neg hx];have:¬(L[k].name==x)=true:=by simp;exact fun h=>hx h.symm
  simp[this]
theorem j0y (L:List Rou) (k:Nat) (x:List UInt8):y4n L k x≤k:=by
 unfold y4n;exact nR List.count_le_length (by rw[List.length_map,lTk];omega)
theorem x2g (L:List Rou) (x:List UInt8):y4n L 0 x=0:=by simp[y4n]
theorem y9g {l:Lay} (hK:z98 l) {i:Int} (h0:0≤i) (h1:i < l.sgs.length):(y7q l i).length≤12:=by
 obtain ⟨n,rfl⟩:∃ n:Nat,i=n:=⟨i.toNat,by omega⟩
 have hn:n < l.sgs.length:=by omega
 rw[(j6x hn).2];exact j2g (hK.sg _ (uE hn)).2
theorem x22 {l:Lay} (hK:z98 l) {i:Nat} (hi:i < l.sgs.length) (p:List Stp):(z1y l i p).name.length≤25:=by
 have h1:=y9g hK (i:=(i:Int)) (by omega) (by omega);have h2:=y0m l (z3d p);unfold z1y;dsimp only;rw[qL,lCn];split
 ·have:=y9g hK (i:=y47 l (z3d p)) (by assumption) h2.2;omega
 ·have:endW.length=3:=rfl;omega
theorem j4d (w:World):(zeroValue 3).run Tryz.prog w=.ok (.int .i64 0) w:=by kernel_rfl
def z7x (w:World) (b n:Nat) (f:List UInt8→Nat):Prop:=∃ D,w.ownsMap (H:=Unit) Tryz.prog 9 (plainElem Tryz.prog 3) b n D∧IsMap D∧∀ x:List UInt8,D.atKey (.string x) (.lit (.int .i64 0))=.lit (.int .i64 (f x:Int))
section
variable {w w':World} {b n:Nat} {f:List UInt8→Nat}
theorem z7x.made (w:World):z7x (w.alloc (.map #[] 0)) w.heap.size 0 (fun _=>0):=⟨_,World.ownsMap_made _ _ _ _,Maps.isMap_empty,fun _=>rfl⟩
theorem z7x.now (h:z7x w b n f) (hb:Below w.heap.size w w'):z7x w' b n f:=by
 obtain ⟨D,h1,h2⟩:=h;exact ⟨D,h1.kept (row:=none) ⟨hb.os,hb.tape,hb.output,hb.size,fun i hi _=>hb.block i hi⟩ (by simp),h2⟩
theorem z7x.obj (h:z7x w b n f):∃ es ck,w.heap[b]? = some (.map es ck):=by
 obtain ⟨D,⟨es,ck,h1,-⟩,-⟩:=h;exact ⟨es,ck,h1⟩
theorem z7x.lt (h:z7x w b n f):b < w.heap.size:=by obtain ⟨D,h1,_⟩:=h;exact h1.lt
theorem z7x.frm {base:Nat} {T:TypeId} (h:z7x w b n f) (hf:Frm base T w w'):z7x w' b n f:=by
 obtain ⟨D,⟨es,ck,h1,h2⟩,h3⟩:=h;exact ⟨D,⟨es,ck,hf.obj b _ h1 (fun cs fr hx=>by cases hx),h2⟩,h3⟩
theorem z7x.ext {f':List UInt8→Nat} (h:z7x w b n f) (he:∀ x,f x=f' x):z7x w b n f':=by
 rw[show f' = f from funext fun x=>(he x).symm];exact h
theorem z7x.ne {g:Nat} {T:TypeId} {cs:Array Value} (h:z7x w b n f) (hg:Blk w g T cs):g≠b:=fun he=>by
 obtain ⟨es,ck,h1⟩:=h.obj;rw[←he] at h1;have h2:w.heap[g]? = some (.cells cs T (0,0)):=hg;rw[h2] at h1;cases h1
theorem z7x.blk {g:Nat} {T:TypeId} {cs:Array Value} (h:z7x w b n f) (hg:Blk w g T cs) (hgr:w.grownBy w' (some b)):Blk w' g T cs:=
 (hgr.block g (z0k hg) (fun he=>h.ne hg (sJ he))).trans hg
end
theorem z7f {w:World} {p:Addr} (h:∀ cs T fr,w.heap[p.block]?≠some (.cells cs T fr)):w.cell? p=none:=by
 unfold World.cell?;split
 ·rename_i c T fr he;exact absurd he (h c T fr)
 ·rfl
theorem z07.cnt {α:Type} {c:Cod α} {w w':World} {base b n n' B:Nat} {e:TypeId} {v:Value} {l:List α} {f f':List UInt8→Nat} (h:z07 c w base e v l B) (hm:z7x w b n f) (hm':z7x w' b n' f') (hg:w.grownBy w' (some b)):z07 c w' base e v l B:=by
 obtain ⟨xs,h1,h2,h3⟩:=h;obtain ⟨es,ck,ho⟩:=hm.obj;obtain ⟨es',ck',ho'⟩:=hm'.obj;have hn:∀ cs T fr,w.heap[b]?≠some (.cells cs T fr):=fun cs T fr hx=>by rw[ho] at hx;cases hx
 have hn':∀ cs T fr,w'.heap[b]?≠some (.cells cs T fr):=fun cs T fr hx=>by rw[ho'] at hx;cases hx
 have hk:∀ p:Addr,Sep w e B p.block→w'.cell? p=w.cell? p:=fun p hp=>by
  by_cases hpb:p.block=b
  ·rw[z7f (w:=w') (by rw[hpb];exact hn'),z7f (w:=w) (by rw[hpb];exact hn)]
  ·exact z0l (hg.block _ (nT hp.1 h3) (fun he=>hpb (sJ he)))
 have hs:∀ q,Sep w e B q→Sep w' e B q:=fun q hq=>⟨hq.1,fun cs fr hx=>by
  by_cases hpb:q=b
  ·subst hpb;exact hn' cs e fr hx
  ·rw[hg.block q (nT hq.1 h3) (fun he=>hpb (sJ he))] at hx;exact hq.2 cs fr hx⟩
 refine ⟨xs,⟨h1.1,?_⟩,(h2.keep hk).more hs,nR h3 hg.size⟩;rcases h1.2 with h | ⟨g,cap,cur,rfl,h5,h6,h7⟩
 ·exact Or.inl h
 ·exact Or.inr ⟨g,cap,cur,rfl,h5,(hg.block g (z0k h6) (fun he=>by rw[←sJ he] at hn;exact hn _ _ _ h6)).trans h6,h7⟩
theorem j7h {n:Nat} (h:n≤1000000):(Lit.int .i64 (n:Int)).wf=true:=by simp[Lit.wf,IntKind.min,IntKind.max,IntKind.signed,IntKind.bits];omega
section
variable (w:World) {ops:Array Oper} {rest:List Oper} {o:Oper} {a:Act} {Q:Exit→Act→World→Prop}
theorem z6b (hg:o.guard=none) (m x:Operand) (t:TypeId) (hop:o.op=Op.lookup t m x false) (ht:Tryz.prog.underlying t=some (.map 9 3))
  (b n:Nat) (f:List UInt8→Nat) (hm:a.eval m=.map (some b)) (hown:z7x w b n f) (s:List UInt8) (hs:s.length≤maxLen) (hx:a.eval x=.string (bs s))
  (hK:wpList Tryz.prog ops Q rest (a.put o.dst (.int .i64 (f s:Int))) w):wpList Tryz.prog ops Q (o::rest) a w:=by
 obtain ⟨D,h1,h2,h3⟩:=hown;refine wpList_lookup_own_int w hg m x t hop 9 3 .i64 z7u ht Tryz.underlying3 (j4d w) b n D hm h1 _ (.string s) hx (y0p s hs) fun c hc _=>?_
 rw[h3 s] at hc;have:(f s:Int)=c:=(Lit.int.inj (DataW.lit.inj hc)).2;rw[←this];exact hK
theorem y1k (hg:o.guard=none) (m x v:Operand) (t:TypeId) (hop:o.op=Op.mapUpdate t m x v) (ht:Tryz.prog.underlying t=some (.map 9 3))
  (b n:Nat) (f:List UInt8→Nat) (hm:a.eval m=.map (some b)) (hown:z7x w b n f) (hn:n < maxLen) (s:List UInt8) (hs:s.length≤maxLen) (hx:a.eval x=.string (bs s)) (c:Nat) (hc:c≤1000000) (hv:a.eval v=.int .i64 (c:Int))
  (hK:∀ w',z7x w' b (n+1) (fun y=>if y=s then c else f y)→w.grownBy w' (some b)→wpList Tryz.prog ops Q rest (a.put o.dst undef) w'):wpList Tryz.prog ops Q (o::rest) a w:=by
 obtain ⟨D,h1,h2,h3⟩:=hown;refine wpList_mapUpdate_own (H:=Unit) w hg m x v t hop 9 3 z7u ht (plainElem Tryz.prog 3) b n D hm h1 hn _ _ (.string s) hx hv (y0p s hs) _ [] (plainElem_int Tryz.underlying3 (j7h hc)) fun w' h4 h5=>hK w' ⟨_,h4,h2.put _ _,fun y=>?_⟩ h5
 by_cases h:y=s
 ·subst h;dsimp only;rw[Maps.atKey_put_same h2 (z7u.key (y0p y hs)) _ _,if_pos rfl]
 ·dsimp only;rw[Maps.atKey_put_other (fun hk=>h (by injection hk)) _ _,if_neg h];exact h3 y
end
end Go.Proofs.YtpenlfedkacglaaGreatDoor
namespace Go.Proofs.YtpenlfedkacglaaGreatDoor
open Go.RowKit
attribute [local go_sem] z05 z09 z01 z02
attribute [-go_sem] run_equalIn_agg
attribute [-go_sem] loadCellsFrom
theorem y49 {w:World} {S:Nat→Prop} {b off:Nat} {l:List Stp} (h:RdS z1i w S (some ⟨b,off,none⟩) l) {i:Nat} (hi:i < l.length) {s:Stp} (hs:l[i]=s):Sem.run Tryz.prog (loadCellsFrom ⟨b,off+i*3,none⟩ 0 3 #[]) w=.ok #[.int .i64 s.el,.int .i64 s.inn,.int .i64 s.out] w:=by
 obtain ⟨b',off',hA,-,-,y0,y1,y2⟩:=h.elT hi;simp only[qE,Addr.mk.injEq,and_true] at hA;obtain ⟨rfl,rfl⟩:=hA;rw[hs] at y0 y1 y2
 exact z2a (b:=b) (o:=off+i*3) (n:=3) (ys:=[.int .i64 s.el,.int .i64 s.inn,.int .i64 s.out]) rfl (fun j u hj=>match j,hj with
  | 0,hj=>(sJ hj)▸y0
  | 1,hj=>(sJ hj)▸y1
  | 2,hj=>(sJ hj)▸y2)
def eoF (o:Option z0o):z0o:=o.getD ⟨0,0⟩
def k01:Value→Nat
 | .slice _ k _=>12 - k
 | _=>0
structure StJ (l:LV) (v:z2t) (ovl:Int) (R:List Stp) (w:World) (gs ge:Nat) (sgc:Array Value) (n:Nat) (over:List Stp) (o:Option z0o) (s:Value) (wr:World):Prop where
 len:over.length+n=12
 res:ovF l.l v.r.secs ovl n over o=R
 own:z07 z1i wr w.heap.size 85 s over 0
 bl:Blk wr w.heap.size 28 (z1b l)
 br:Blk wr (w.heap.size+1) 56 (z0f v)
 bs:Blk wr gs 105 sgc
 be:Blk wr ge 90 #[.int .i64 (eoF o).el,.int .i64 (eoF o).sd]
 bel:Below w.heap.size w wr
 i64:∀ e,o=some e→z0p e.el∧z0p e.sd
theorem x8o (l:Lay) (secs:List Int) (ovl:Int) (n:Nat) (over:List Stp):ovF l secs ovl n over none=over:=by cases n <;> rfl
theorem x8m {l:Lay} {secs:List Int} {ovl:Int} {n:Nat} {over:List Stp} {o:Option z0o} (h:¬z1j l over < ovl):ovF l secs ovl n over o=over:=by
 cases n with
 | zero=>rfl
 | succ n=>cases o with
  | none=>rfl
  | some e=>show (if _ then _ else _)=_;rw[if_neg h]
theorem y8t {l:Lay} {secs:List Int} {ovl:Int} {n:Nat} {over:List Stp} {e:z0o} (h:(over.any fun s=>decide (s.el=e.el))=true∨z0d l e.el∈secs):ovF l secs ovl n over (some e)=over:=by
 cases n with
 | zero=>rfl
 | succ n=>show (if _ then (if _ then _ else _) else _)=_;rw[if_pos h];split <;> rfl
theorem j2p {l:Lay} {secs:List Int} {ovl:Int} {n:Nat} {over:List Stp} {e:z0o} (h:brF l e=[]):ovF l secs ovl n over (some e)=over:=by
 cases n with
 | zero=>rfl
 | succ n=>
  show (if _ then (if _ then _ else (match brF l e with | []=>over | s::_=>_)) else _)=_;rw[h];split
  ·split <;> rfl
  ·rfl
theorem j6l {l:Lay} {secs:List Int} {ovl:Int} {n:Nat} {over:List Stp} {e:z0o} {s:Stp} {r:List Stp} (h1:z1j l over < ovl) (h2:¬((over.any fun s=>decide (s.el=e.el))=true∨z0d l e.el∈secs)) (h:brF l e=s::r):ovF l secs ovl (n+1) over (some e)=ovF l secs ovl n (over++[s]) (z7l l s):=by
 show (if _ then (if _ then _ else (match brF l e with | []=>over | s::_=>_)) else _)=_;rw[if_pos h1,if_neg h2,h]
theorem x5c (l:LV) (v:z2t) (w:World) (E:EnvR w) (hK:z98 l.l) (hl:LvR w l) (hr:RvR w (Lt w) v) (hx1:v.r.ext < (l.l.sgs.length:Int)):Calls Tryz.prog 46 #[lvA l,.agg (z0f v)] w (y4c z1i 85 w (z4w l.l v.r)):=by
 obtain ⟨i0,hi,hy0,hy1,hy2⟩:=info_parts z2z;obtain ⟨W2,hW2⟩:∃ W,W=(w.alloc (.cells (z1b l) 28)).alloc (.cells (z0f v) 56):=⟨_,rfl⟩
 have hb:Below w.heap.size w W2:=by rw[hW2];exact (bQ.alloc nL _).alloc (by simp) _
 have hg:Blk W2 (w.heap.size+1) 56 (z0f v):=by rw[hW2];exact Blk.new _ _ _ _ (by simp)
 have hx:Blk W2 w.heap.size 28 (z1b l):=by rw[hW2];exact (Blk.new _ _ _ _ rfl).alloc _
 have HE:=hE (x70 l v W2 (hl.now hb) hx1);have ld0:=z04 hx 6 rfl;have ld1:=z04 hg 14 rfl;unfold lvA at HE ⊢;go_enter Tryz.func46,Tryz.ntmps46
 go_upto_region 1 with (fail)
 rw[←hW2];clear hW2;go_wp2_with fail
 refine HE.out.mono ?_;rintro e w3 ⟨he0,he1,hq3⟩;have hb3:=z00 hb hb.size hq3;have hx3:=hx.now hq3;have hg3:=hg.now hq3;clear HE ld0 ld1;by_cases h0:v.r.ext < 0
 ·obtain rfl:=he0 h0;have HZ:=hE (show z4w l.l v.r=[] by unfold z4w;rw[if_neg (by omega)]);clear he0 he1 h0 hx hg hx3 hg3 hx1;go_wp2_with fail
  go_ret;exact z0y HZ.out.symm rfl (z07.nil _ _ _ _ nZ) (blz)
 obtain ⟨j,hj⟩:∃ j:Nat,v.r.ext=(j:Int):=⟨v.r.ext.toNat,by omega⟩
 have hjl:j < l.l.sgs.length:=by omega
 obtain rfl:=he1 j hjl hj;have HR:=hE (show ovF l.l v.r.secs l.l.sgs[j].ovl 12 [] (z03 l.l.jts l.l.sgs[j].pos)=z4w l.l v.r by
  unfold z4w;rw[if_pos ⟨by omega,hx1⟩,hj];simp[j8r,y46,hjl])
 have h3:RvR w (Lt w) v:=hr;have hn3:=hr.o.n3.1;obtain ⟨sg,hsg⟩:∃ sg,l.l.sgs[j]=sg:=⟨_,rfl⟩
 rw[hsg] at HR ⊢;obtain ⟨W4,hW4⟩:∃ W,W=w3.alloc (.cells #[.string (bs sg.name),.int .i64 sg.pos.el,.int .i64 sg.pos.sd,.int .i64 sg.ovl] 105):=⟨_,rfl⟩
 have hb4:Below w.heap.size w W4:=by rw[hW4];exact hb3.alloc hb3.size _
 have hx4:Blk W4 w.heap.size 28 (z1b l):=by rw[hW4];exact hx3.alloc _
 have hg4:Blk W4 (w.heap.size+1) 56 (z0f v):=by rw[hW4];exact hg3.alloc _
 have hs4:Blk W4 w3.heap.size 105 #[.string (bs sg.name),.int .i64 sg.pos.el,.int .i64 sg.pos.sd,.int .i64 sg.ovl]:=by rw[hW4];exact Blk.new _ _ _ _ rfl
 have HJ:=hE (z6g l sg.pos W4 (hl.now hb4));unfold lvA at HJ;clear he0 he1 h0 hj hsg hx hg hx3 hg3 hx1;go_upto_region 5 with (fail)
 rw[←hW4];clear hW4;have ld0:=z04 hx4 6 rfl
 have ld1:Sem.run Tryz.prog (loadCellsFrom ⟨w3.heap.size,1,none⟩ 0 2 #[]) W4=.ok #[.int .i64 sg.pos.el,.int .i64 sg.pos.sd] W4:=z2a (w:=W4) (b:=w3.heap.size) (o:=1) (n:=2) (ys:=[.int .i64 sg.pos.el,.int .i64 sg.pos.sd]) rfl (fun j u hj=>match j,hj with
  | 0,hj=>(sJ hj)▸hs4.cell 1
  | 1,hj=>(sJ hj)▸hs4.cell 2)
 have xl:=hs4.lt;go_wp2_with fail
 refine HJ.out.mono ?_;rintro e w5 ⟨rfl,hq5⟩;have hb5:=z00 hb4 hb4.size hq5;obtain ⟨o0,ho0⟩:∃ o,z03 l.l.jts sg.pos=o:=⟨_,rfl⟩
 have ho64:∀ e,o0=some e→z0p e.el∧z0p e.sd:=fun e he=>z2x (w:=w) (S:=Lt w) (fun j hj=>by
  obtain ⟨i,hi,rfl⟩:=List.getElem_of_mem hj;obtain ⟨_,_,_,_,ho,_⟩:=hl.r3.elJ hi;exact ⟨ho.1,ho.2⟩) (ho0.trans he)
 rw[ho0] at HR ⊢;have hjv:z6v o0=.tuple #[.agg #[.int .i64 (eoF o0).el,.int .i64 (eoF o0).sd],.bool o0.isSome]:=rfl;rw[hjv];have HB5:=hE (show StJ l v sg.ovl (z4w l.l v.r) w w3.heap.size w5.heap.size #[.string (bs sg.name),.int .i64 sg.pos.el,.int .i64 sg.pos.sd,.int .i64 sg.ovl] 12 [] o0 (.slice none 0 0) (w5.alloc (.cells #[.int .i64 (eoF o0).el,.int .i64 (eoF o0).sd] 90)) from
  ⟨rfl,HR.out,z07.nil _ _ _ _ nZ,(hx4.now hq5).alloc _,(hg4.now hq5).alloc _,(hs4.now hq5).alloc _,Blk.new _ _ _ _ rfl,hb5.alloc hb5.size _,ho64⟩)
 obtain ⟨q0,hq0⟩:∃ q,o0.isSome=q:=⟨_,rfl⟩
 obtain ⟨ae,hae⟩:∃ a,(eoF o0).el=a:=⟨_,rfl⟩
 obtain ⟨ad,had⟩:∃ a,(eoF o0).sd=a:=⟨_,rfl⟩
 rw[hq0,hae,had];rw[hae,had] at HB5;have HQ0:=hE hq0;clear hq0 hae had hjv ho0 ho64 HR ld0 ld1 xl HJ hx4 hg4 hs4 hq3 hb hb4;go_wp2_with fail
 go_loopw [6,7] (fun ok s wr=>∃ (n:Nat) (over:List Stp) (o:Option z0o),ok=.bool o.isSome∧StJ l v sg.ovl (z4w l.l v.r) w w3.heap.size w5.heap.size #[.string (bs sg.name),.int .i64 sg.pos.el,.int .i64 sg.pos.sd,.int .i64 sg.ovl] n over o s wr) (fun _ s _=>k01 s)
 case atStart=>exact ⟨12,[],o0,by rw[HQ0.out],HB5.out⟩
 case round=>
  obtain ⟨n,over,o,rfl,hJ⟩:=hrel;clear HB5 HQ0;obtain ⟨A,cap,hv⟩:=hJ.own.form;subst hv;have hres:=hE hJ.res;have hbl:=hJ.bl;have hbr:=hJ.br;have hbs:=hJ.bs;have hbe:=hJ.be;have hbw:=hJ.bel;have hown:=hJ.own;have hlen:=hJ.len;have hi64:=hJ.i64;clear hJ;obtain ⟨hno,hro⟩:=hown.rdn;have hro2:RdS z1i wr (Lt wr) A over:=hro.more fun b h=>h.2
  cases o with
  | none=>
   have HX:=hE (show over=z4w l.l v.r by rw[←hres.out,x8o]);have HO:=hE hown;clear hres hown hro hro2 hbe hi64;dsimp only [Option.isSome_none];go_wp2_with fail
   refine rgH 14 (S:=(fun _=>True)) (trivial) fun hHeld=>?_
   refine tkM 14 [0,1,2,3,4,5,6,7,8,9,10,11,12,13] ?_;refine wdn ?_;go_wp2_with fail
   go_ret
   exact z0y HX.out rfl HO.out.drew hbw.drew
  | some e=>
   have he64:=hi64 e rfl;have hbe:Blk wr w5.heap.size 90 #[.int .i64 e.el,.int .i64 e.sd]:=hbe;have HWL:=hE fun W' (h:Below wr.heap.size wr W')=>y9m l hK over A cap W' (hl.now (z00 hbw hbw.size h)) (hro2.now h) (by omega)
   unfold lvA at HWL;have HSS:Hid (∀ W,Below wr.heap.size wr W→(fun w'=>Sem.run Tryz.prog (loadCellsFrom ⟨w.heap.size,0,none⟩ 0 6 #[]) w' = .ok (z1b l) w'∧w'.cell? ⟨w3.heap.size,3,none⟩=some (.int .i64 sg.ovl)) W):=hE fun W h=>⟨z04 (hbl.now h) 6 rfl,(hbs.now h).cell 3⟩
   obtain ⟨z,hz⟩:∃ z,z1j l.l over=z:=⟨_,rfl⟩
   rw[hz] at HWL;have HZ:=hE hz;clear hz hi64 hro;dsimp only [Option.isSome_some];by_cases hzl:z < sg.ovl;case neg=>
    have t1:decide (z < sg.ovl)=false:=by simpa using hzl
    have HX:=hE (show over=z4w l.l v.r by rw[←hres.out,x8m (by rw[HZ.out];exact hzl)]);clear hres hzl;go_wp2_with fail
    refine rgS 14 HSS fun hHeld=>?_
    refine tkM 6 [0,1,2,3,5,6] ?_;refine rd1 4 rfl fun K hK=>?_
    go_simp;go_at_call 93
    refine (HWL.out _ bQ.drew).mono ?_;rintro e4 w6 ⟨rfl,hq6⟩;have hq6':Below wr.heap.size wr w6:=bQ.drew.trans hq6;go_wp2_with fail
    refine hK.out _ _ (HSS.out _ hq6') (fun hHeld=>?_);clear hK K;try simp only[Act.put,lsa,lsz,lss]
    refine tkM 7 [7,8,9,10,11,12,13] ?_;refine wdn ?_;have hbl:=hbl.now hq6';have hbr:=hbr.now hq6';have hbs:=hbs.now hq6';have hbe:=hbe.now hq6';have hown:=hown.now hq6';have hbw:=z00 hbw hbw.size hq6';have hro2:=hro2.now hq6';clear hHeld HSS HWL hq6 hq6';have HO:=hE hown;clear hown hro2;go_wp2_with fail
    go_ret;exact z0y HX.out rfl HO.out hbw
   case pos=>
    have t1:decide (z < sg.ovl)=true:=by simpa using hzl
    have HZL:=hE (show z1j l.l over < sg.ovl by rw[HZ.out];exact hzl);clear hzl;by_cases h12:over.length < 12;case neg=>
     have t2:decide ((over.length:Int) < 12)=false:=by simp;omega
     have HX:=hE (show over=z4w l.l v.r by rw[←hres.out,show n=0 by omega];rfl);have h12':¬(over.length:Int) < 12:=by omega
     clear hres h12;go_wp2_with fail
     refine rgS 14 HSS fun hHeld=>?_
     refine tkM 6 [0,1,2,3,5,6] ?_;refine rd1 4 rfl fun K hK=>?_
     go_simp;go_at_call 93
     refine (HWL.out _ bQ.drew).mono ?_;rintro e4 w6 ⟨rfl,hq6⟩;have hq6':Below wr.heap.size wr w6:=bQ.drew.trans hq6;go_wp2_with fail
     refine hK.out _ _ (HSS.out _ hq6') (fun hHeld=>?_);clear hK K;try simp only[Act.put,lsa,lsz,lss]
     refine tkM 7 [7,8,9,10,11,12,13] ?_;refine wdn ?_;have hbl:=hbl.now hq6';have hbr:=hbr.now hq6';have hbs:=hbs.now hq6';have hbe:=hbe.now hq6';have hown:=hown.now hq6';have hbw:=z00 hbw hbw.size hq6';have hro2:=hro2.now hq6';clear hHeld HSS HWL hq6 hq6';have HO:=hE hown;clear hown hro2;go_wp2_with fail
     go_ret;exact z0y HX.out rfl HO.out hbw
    case pos=>
     have t2:decide ((over.length:Int) < 12)=true:=by simp;omega
     have h12':(over.length:Int) < 12:=by omega
     obtain ⟨m,rfl⟩:∃ m,n=m+1:=⟨n - 1,by omega⟩
     go_wp2_with fail;refine rgS 14 HSS fun hHeld=>?_
     refine tkM 6 [0,1,2,3,5,6] ?_;refine rd1 4 rfl fun K hK=>?_
     go_simp;go_at_call 93
     refine (HWL.out _ bQ.drew).mono ?_;rintro e4 w6 ⟨rfl,hq6⟩;have hq6':Below wr.heap.size wr w6:=bQ.drew.trans hq6;go_wp2_with fail
     refine hK.out _ _ (HSS.out _ hq6') (fun hHeld=>?_);clear hK K;try simp only[Act.put,lsa,lsz,lss]
     refine tkM 7 [7,8,9,10,11,12,13] ?_;refine wdn ?_;have hbl:=hbl.now hq6';have hbr:=hbr.now hq6';have hbs:=hbs.now hq6';have hbe:=hbe.now hq6';have hown:=hown.now hq6';have hbw:=z00 hbw hbw.size hq6';have hro2:=hro2.now hq6';clear hHeld HSS HWL hq6 hq6';go_wp2_with fail
     rename World=>wp
     have HCO:=hE fun W' (h:Below wp.heap.size wp W')=>y9y over A cap e.el W' (hro2.now h) (by unfold maxLen;omega)
     have HSE:=hE fun W' (h:Below wp.heap.size wp W')=>z2y l e.el W' (hl.now (z00 hbw hbw.size h))
     unfold lvA at HSE;have HOB:=hE fun W' (h:Below wp.heap.size wp W')=>y1f (z0d l.l e.el) v.r.secs v.A3 v.c3 W' ((hr.now (z00 hbw hbw.size h)).r3) hn3
     have HSS:Hid (∀ W,Below wp.heap.size wp W→(fun w'=>Sem.run Tryz.prog (loadCellsFrom ⟨w.heap.size,0,none⟩ 0 6 #[]) w' = .ok (z1b l) w'∧w'.cell? ⟨w5.heap.size,0,none⟩=some (.int .i64 e.el)∧w'.cell? ⟨w.heap.size+1,5,none⟩=some (.slice v.A3 v.r.secs.length v.c3)) W):=hE fun W h=>⟨z04 (hbl.now h) 6 rfl,(hbe.now h).cell 0,(hbr.now h).cell 5⟩
     obtain ⟨cv,hcv⟩:∃ c,(over.any fun s=>decide (s.el=e.el))=c:=⟨_,rfl⟩
     obtain ⟨ob,hob⟩:∃ c,decide (z0d l.l e.el∈v.r.secs)=c:=⟨_,rfl⟩
     rw[hcv] at HCO;rw[hob] at HOB
     cases cv with
     | true=>
      have HX:=hE (show over=z4w l.l v.r by rw[←hres.out,y8t (Or.inl hcv)]);clear hres hcv hob;refine rgS 13 HSS fun hHeld=>?_
      refine tkM 3 [0,1,2] ?_;refine rd1 3 rfl fun K hK=>?_
      go_simp;go_at_call 94
      refine (HCO.out _ bQ.drew).mono ?_;rintro e7 w7 ⟨rfl,hq7⟩;have hq7':Below wp.heap.size wp w7:=bQ.drew.trans hq7;go_wp2_with fail
      refine hK.out _ _ (HSS.out _ hq7') (fun hHeld=>?_);clear hK K;try simp only[Act.put,lsa,lsz,lss]
      refine tkM 9 [4,5,6,7,8,9,10,11,12] ?_;refine wdn ?_;have hbl:=hbl.now hq7';have hbr:=hbr.now hq7';have hbs:=hbs.now hq7';have hbe:=hbe.now hq7';have hown:=hown.now hq7';have hbw:=z00 hbw hbw.size hq7';have hro2:=hro2.now hq7';clear hHeld HSS HCO HSE HOB;have HO:=hE hown;clear hown hro2;go_wp2_with fail
      go_ret
      exact z0y HX.out rfl HO.out hbw
     | false=>
      cases ob with
      | true=>
       have HX:=hE (show over=z4w l.l v.r by rw[←hres.out,y8t (Or.inr (by simpa using hob))]);clear hres hcv hob;refine rgS 13 HSS fun hHeld=>?_
       refine tkM 3 [0,1,2] ?_;refine rd1 3 rfl fun K hK=>?_
       go_simp;go_at_call 94
       refine (HCO.out _ bQ.drew).mono ?_;rintro e7 w7 ⟨rfl,hq7⟩;have hq7':Below wp.heap.size wp w7:=bQ.drew.trans hq7;go_wp2_with fail
       refine hK.out _ _ (HSS.out _ hq7') (fun hHeld=>?_);clear hK K;try simp only[Act.put,lsa,lsz,lss]
       refine tkM 6 [4,5,6,7,9,10] ?_;refine rd1 8 rfl fun K hK=>?_
       go_simp;go_at_call 18
       refine (HSE.out _ hq7').mono ?_;rintro e8 w8 ⟨rfl,hq8⟩;have hq8':Below wp.heap.size wp w8:=z00 hq7' hq7'.size hq8;go_wp2_with fail
       refine hK.out _ _ (HSS.out _ hq8') (fun hHeld=>?_);clear hK K;try simp only[Act.put,lsa,lsz,lss]
       refine rd1 11 rfl fun K hK=>?_
       go_simp;go_at_call 95
       refine (HOB.out _ hq8').mono ?_;rintro e9 w9 ⟨rfl,hq9⟩;have hq9':Below wp.heap.size wp w9:=z00 hq8' hq8'.size hq9;go_wp2_with fail
       refine hK.out _ _ (HSS.out _ hq9') (fun hHeld=>?_);clear hK K;try simp only[Act.put,lsa,lsz,lss]
       refine tkM 1 [12] ?_;refine wdn ?_;have hbl:=hbl.now hq9';have hbr:=hbr.now hq9';have hbs:=hbs.now hq9';have hbe:=hbe.now hq9';have hown:=hown.now hq9';have hbw:=z00 hbw hbw.size hq9';have hro2:=hro2.now hq9';clear hHeld HSS HCO HSE HOB;have HO:=hE hown;clear hown hro2;go_wp2_with fail
       go_ret
       exact z0y HX.out rfl HO.out hbw
      | false=>
       have HCL:=hE (show ¬((over.any fun s=>decide (s.el=e.el))=true∨z0d l.l e.el∈v.r.secs) by
        rw[hcv];simpa using hob)
       clear hcv hob;refine rgS 13 HSS fun hHeld=>?_
       refine tkM 3 [0,1,2] ?_;refine rd1 3 rfl fun K hK=>?_
       go_simp;go_at_call 94
       refine (HCO.out _ bQ.drew).mono ?_;rintro e7 w7 ⟨rfl,hq7⟩;have hq7':Below wp.heap.size wp w7:=bQ.drew.trans hq7;go_wp2_with fail
       refine hK.out _ _ (HSS.out _ hq7') (fun hHeld=>?_);clear hK K;try simp only[Act.put,lsa,lsz,lss]
       refine tkM 6 [4,5,6,7,9,10] ?_;refine rd1 8 rfl fun K hK=>?_
       go_simp;go_at_call 18
       refine (HSE.out _ hq7').mono ?_;rintro e8 w8 ⟨rfl,hq8⟩;have hq8':Below wp.heap.size wp w8:=z00 hq7' hq7'.size hq8;go_wp2_with fail
       refine hK.out _ _ (HSS.out _ hq8') (fun hHeld=>?_);clear hK K;try simp only[Act.put,lsa,lsz,lss]
       refine rd1 11 rfl fun K hK=>?_
       go_simp;go_at_call 95
       refine (HOB.out _ hq8').mono ?_;rintro e9 w9 ⟨rfl,hq9⟩;have hq9':Below wp.heap.size wp w9:=z00 hq8' hq8'.size hq9;go_wp2_with fail
       refine hK.out _ _ (HSS.out _ hq9') (fun hHeld=>?_);clear hK K;try simp only[Act.put,lsa,lsz,lss]
       refine tkM 1 [12] ?_;refine wdn ?_;have hbl:=hbl.now hq9';have hbr:=hbr.now hq9';have hbs:=hbs.now hq9';have hbe:=hbe.now hq9';have hown:=hown.now hq9';have hbw:=z00 hbw hbw.size hq9';have hro2:=hro2.now hq9';clear hHeld HSS HCO HSE HOB;have HBR:=hE (z8m l e he64 w9 (E.now hbw) (hl.now hbw));unfold lvA at HBR;have ld0:=z04 hbl 6 rfl;have ld1:=z04 hbe 2 rfl;go_wp2_with fail
       refine HBR.out.mono ?_;rintro e10 w10 ⟨Ab,cb,rfl,hob,hq10⟩;clear ld0 ld1 HBR;have hbl:=hbl.now hq10;have hbr:=hbr.now hq10;have hbs:=hbs.now hq10;have hbe:=hbe.now hq10;have hol:=z6t hown;have hown:=hown.now hq10;have hbw:=z00 hbw hbw.size hq10;obtain ⟨bb,hbb⟩:∃ bb,brF l.l e=bb:=⟨_,rfl⟩
       rw[hbb] at hob ⊢
       cases bb with
       | nil=>
        have HX:=hE (show over=z4w l.l v.r by rw[←hres.out,j2p hbb]);have HO:=hE hown;clear hown hro2 hob hbb hres;go_wp2_with fail
        go_ret
        exact z0y HX.out rfl HO.out hbw
       | cons s r=>
        have HGO:=hE (show ovF l.l v.r.secs sg.ovl m (over++[s]) (z7l l.l s)=z4w l.l v.r by rw[←hres.out,j6l HZL.out HCL.out hbb]);have t3:(((s::r).length:Int)==0)=false:=by first | (simp;done) | (simp;omega)
        obtain ⟨hnb,hrb⟩:=hob.rdn;have hrb2:RdS z1i w10 (Lt w10) Ab (s::r):=hrb.more fun b h=>h.2
        obtain ⟨b,off,hAb,lb,ho3,-⟩:=hrb2.elT (show 0 < (s::r).length by simp);rw[List.getElem_cons_zero] at ho3;subst hAb;have lds:=y49 hrb2 (i:=0) (by simp) (s:=s) rfl;rw[Nat.zero_mul,Nat.add_zero] at lds;have hk:(0:Int) < ((s::r).length:Int):=by first | (simp;done) | (simp;omega)
        obtain ⟨nb,hnbe⟩:∃ nb,(s::r).length=nb:=⟨_,rfl⟩
        have hkn:0 < nb:=by rw[←hnbe];simp
        have HNB:=hE hnbe;have hobL:=hE hob;rw[hnbe] at t3 hk ⊢;have lb':b < w10.heap.size:=lb;have hrd:=hE hres;clear hbb hres hnb hrb hnbe hro2 hob lb;have hol9:∀ b',(Value.slice A over.length cap).ownBlock=some b'→b' < w9.heap.size:=hol;have hob2:=hobL.out;have h4:Below w10.heap.size w10 (w10.alloc (.cells #[.int .i64 s.el,.int .i64 s.inn,.int .i64 s.out] 85)):=bQ.alloc nL _;have hbz4:Blk (w10.alloc (.cells #[.int .i64 s.el,.int .i64 s.inn,.int .i64 s.out] 85)) w10.heap.size 85 #[.int .i64 s.el,.int .i64 s.inn,.int .i64 s.out]:=Blk.new _ _ _ _ rfl;have hown4:=hown.now h4;have hob4:=hob2.now h4;have hwb:w.heap.size≤w10.heap.size:=hbw.size;have hws:w.heap.size≤(w10.alloc (.cells #[.int .i64 s.el,.int .i64 s.inn,.int .i64 s.out] 85)).heap.size:=nR hwb h4.size;clear hob2 hol;have HNE:=hE (show ∀ b',(Value.slice (some ⟨b,off,none⟩) (s::r).length cb).ownBlock=some b'→(Value.slice A over.length cap).ownBlock≠some b' from fun b' hb' he=>by
         obtain ⟨xs,h1,_⟩:=hobL.out;have h2:=(World.ownsRow.lt h1 b' hb').1;have h3:=hol9 b' he;omega)
        go_wp2_with (at_builtin;go_loud (refine z0m (c:=z1i) _ rfl _ _ 52 rfl w.heap.size 85 i0 _ 24 Tryz.underlying52 hi hy0 hy1 hy2 rfl (by decide) _ over 0 rfl hown4 [.int .i64 s.el,.int .i64 s.inn,.int .i64 s.out] s ⟨rfl,ho3⟩ (by intro u hu;simp at hu;rcases hu with rfl | rfl | rfl <;> rfl) ⟨w10.heap.size,0,none⟩ 1 rfl (fun j u hj=>by rw[z0h];exact z0e hbz4 j u hj) (by omega) (by omega) hws ?_);intro v' w11 hq11)
        obtain ⟨A11,c11,rfl⟩:=hq11.own.form;have hob11:=hob4.apart hq11 HNE.out;have hown11:=hq11.own.low z3w
        have hbl11:=hq11.frm.blk (hbl.now h4) (by decide);have hbr11:=hq11.frm.blk (hbr.now h4) (by decide);have hbs11:=hq11.frm.blk (hbs.now h4) (by decide);have hbe11:=hq11.frm.blk (hbe.now h4) (by decide);have hbw11:=hq11.frm.keeps nL hws (z00 hbw hbw.size h4);have hln:(over++[s]).length=over.length+1:=by simp
        rw[hln] at hown11 ⊢;clear hq11 hown4 hob4 hbz4 h4 hown hws hwb hbl hbr hbs hbe hbw lds;obtain ⟨on,hon⟩:∃ on,z7l l.l s=on:=⟨_,rfl⟩
        have hon64:∀ e,on=some e→z0p e.el∧z0p e.sd:=fun e he=>y8r hl (hon.trans he)
        have HJV:Hid (z6v (z7l l.l s)=.tuple #[.agg #[.int .i64 (eoF on).el,.int .i64 (eoF on).sd],.bool on.isSome]):=hE (by rw[hon];rfl);have HGO2:=hE (hon▸HGO.out);obtain ⟨q1,hq1⟩:∃ q,on.isSome=q:=⟨_,rfl⟩
        obtain ⟨a1,ha1⟩:∃ q,(eoF on).el=q:=⟨_,rfl⟩
        obtain ⟨a2,ha2⟩:∃ q,(eoF on).sd=q:=⟨_,rfl⟩
        rw[hq1,ha1,ha2] at HJV;have HNX:=hE fun W' (h:Below w11.heap.size w11 W')=>next_any l s W' (hl.now (z00 hbw11 hbw11.size h))
        rw[HJV.out] at HNX;unfold lvA at HNX;have HQ:=hE (aIq hq1 (aIq ha1 ha2));have HSS:Hid (∀ W,Blk W w.heap.size 28 (z1b l)→RdS z1i W (Lt W) (some ⟨b,off,none⟩) (s::r)→(fun w'=>Sem.run Tryz.prog (loadCellsFrom ⟨w.heap.size,0,none⟩ 0 6 #[]) w' = .ok (z1b l) w'∧Sem.run Tryz.prog (loadCellsFrom ⟨b,off,none⟩ 0 3 #[]) w' = .ok #[.int .i64 s.el,.int .i64 s.inn,.int .i64 s.out] w') W):=hE fun W h1 h2=>⟨z04 h1 6 rfl,by have:=y49 h2 (i:=0) (by simp) (s:=s) rfl;rwa [Nat.zero_mul,Nat.add_zero] at this⟩
        have hge:w.heap.size≤w5.heap.size:=hb5.size;clear hq1 ha1 ha2 hon HGO HJV hn3 hr h3 hb3 hb5 hq5;have hno11:RdS z1i w11 (Lt w11) (some ⟨b,off,none⟩) (s::r):=(hob11.rdn (A:=some ⟨b,off,none⟩)).2.more fun b h=>h.2
        refine rgH 10 (S:=(fun w'=>Sem.run Tryz.prog (loadCellsFrom ⟨w.heap.size,0,none⟩ 0 6 #[]) w' = .ok (z1b l) w'∧Sem.run Tryz.prog (loadCellsFrom ⟨b,off,none⟩ 0 3 #[]) w' = .ok #[.int .i64 s.el,.int .i64 s.inn,.int .i64 s.out] w')) (HSS.out _ hbl11.drew (hno11.now bQ.drew)) fun hHeld=>?_
        refine tkM 4 [0,1,2,3] ?_;refine rd1 4 rfl fun K hK=>?_
        go_simp;go_at_call 97
        refine (HNX.out _ bQ.drew).mono ?_;rintro e12 w12 ⟨rfl,hq12⟩;have hq12':Below w11.heap.size w11 w12:=bQ.drew.trans hq12;go_wp2_with fail
        refine hK.out _ _ (HSS.out _ (hbl11.now hq12') (hno11.now hq12')) (fun hHeld=>?_);clear hK K;try simp only[Act.put,lsa,lsz,lss]
        refine tkM 3 [5,6,7] ?_;have hbe12:=hbe11.now hq12';have hob12:=hob11.now hq12';have hown12:=hown11.now hq12';have c0:=hbe12.cell 0;have c1:=hbe12.cell 1;simp only[gqA,gqZ,gqS] at c0 c1;have cf:=hbe12.free;have cl:=hbe12.lt;have hfr:Frm w5.heap.size 90 w12 ((w12.setCell ⟨w5.heap.size,0,none⟩ (.int .i64 a1)).setCell ⟨w5.heap.size,1,none⟩ (.int .i64 a2)):=z0j (w:=w12) [.int .i64 a1,.int .i64 a2] 0 hbe12 nL;have hbeX:Blk ((w12.setCell ⟨w5.heap.size,0,none⟩ (.int .i64 a1)).setCell ⟨w5.heap.size,1,none⟩ (.int .i64 a2)) w5.heap.size 90 #[.int .i64 a1,.int .i64 a2]:=(hbe12.set 0 _).set 1 _;have hobX:=(hob12.set w5.heap.size 0 (.int .i64 a1) 90 _ hbe12 (by decide) nZ).set w5.heap.size 1 (.int .i64 a2) 90 _ (hbe12.set 0 _) (by decide) nZ;have hownX:=(hown12.set w5.heap.size 0 (.int .i64 a1) 90 _ hbe12 (by decide) nZ).set w5.heap.size 1 (.int .i64 a2) 90 _ (hbe12.set 0 _) (by decide) nZ;have hblX:=hfr.blk (hbl11.now hq12') (by decide);have hbrX:=hfr.blk (hbr11.now hq12') (by decide);have hbsX:=hfr.blk (hbs11.now hq12') (by decide);have hbw12:=z00 hbw11 hbw11.size hq12';have hbwX:=hfr.keeps hge hbw12.size hbw12;have hnoX:RdS z1i ((w12.setCell ⟨w5.heap.size,0,none⟩ (.int .i64 a1)).setCell ⟨w5.heap.size,1,none⟩ (.int .i64 a2)) (Lt ((w12.setCell ⟨w5.heap.size,0,none⟩ (.int .i64 a1)).setCell ⟨w5.heap.size,1,none⟩ (.int .i64 a2))) (some ⟨b,off,none⟩) (s::r):=(z07.rdn (A:=some ⟨b,off,none⟩) hobX).2.more fun b h=>h.2
        have HXX:=hE (aIq hblX (aIq hbrX (aIq hbsX (aIq hbeX (aIq hownX (aIq hbwX hnoX))))));clear hblX hbrX hbsX hbeX hownX hbwX hnoX hobX hfr;refine rd1 8 rfl fun K hK=>?_
        go_simp;refine hK.out _ _ (HSS.out _ HXX.out.1 HXX.out.2.2.2.2.2.2) (fun hHeld=>?_);clear hK K;try simp only[Act.put,lsa,lsz,lss]
        refine tkM 1 [9] ?_;refine wdn ?_;clear hHeld HSS HNX;go_wp2_with fail
        go_roundw
        case rel=>
         obtain ⟨x1,x2,x3,x4,x5,x6,-⟩:=HXX.out;obtain ⟨k1,k2,k3⟩:=HQ.out;exact ⟨m,over++[s],on,by rw[k1],⟨by rw[hln];omega,HGO2.out,x5,x1,x2,x3,by rw[k2,k3];exact x4,x6,hon64⟩⟩
        case measure=>
         show 12 - (over.length+1) < 12 - over.length;omega
end Go.Proofs.YtpenlfedkacglaaGreatDoor
namespace Go.Proofs.YtpenlfedkacglaaGreatDoor
open Go.RowKit
open Go.Maps (Keyed)
attribute [local go_sem] z05 z09 z01 z02
attribute [-go_sem] run_equalIn_agg
theorem y3m (v:LV) (w:World) (E:y6h w) (hr:LvR w v) (hm3:v.l.jts.length≤140737488351232):Calls Tryz.prog 76 #[lvA v] w (y2u w v.l):=by
 have hbx:=Lx.new hr;unfold lvA;go_enter Tryz.func76,Tryz.ntmps76
 go_wp2_with fail;go_loopw [16] (fun n wr=>∃ k:Nat,k≤v.l.jts.length∧n=.int .i64 k∧Lx w wr v∧Hid ((v.l.jts.take k).all (y2d v.l)=true)) (fun n _=>v.l.jts.length - (intOf n).toNat)
 case atStart=>exact ⟨0,nZ,rfl,hbx,hE (by simp)⟩
 case round=>
  obtain ⟨k,hk,rfl,hb,HK⟩:=hrel;clear hbx;by_cases hlt:k < v.l.jts.length
  ·have hki:(k:Int) < (v.l.jts.length:Int):=by omega
   obtain ⟨b,off,hA,lb,ho,y0,y1,y2,y3⟩:=hb.rd.r3.elJ hlt;have hba:=hb.alloc (.cells #[.int .i64 v.l.jts[k].a.el,.int .i64 v.l.jts[k].a.sd,.int .i64 v.l.jts[k].b.el,.int .i64 v.l.jts[k].b.sd] 107);have hjb:Blk (wr.alloc (.cells #[.int .i64 v.l.jts[k].a.el,.int .i64 v.l.jts[k].a.sd,.int .i64 v.l.jts[k].b.el,.int .i64 v.l.jts[k].b.sd] 107)) wr.heap.size 107 #[.int .i64 v.l.jts[k].a.el,.int .i64 v.l.jts[k].a.sd,.int .i64 v.l.jts[k].b.el,.int .i64 v.l.jts[k].b.sd]:=Blk.new _ _ _ _ rfl;have x0:=hba.x0;have x1:=hba.x1;have x2:=hba.x2;have x3:=hba.x3;have x4:=hba.x4;have x5:=hba.x5;have HNO:=hE fun h:y2d v.l v.l.jts[k]=false=>j5w (z8l (p:=y2d v.l) hlt h)
   have HYE:=hE fun h:y2d v.l v.l.jts[k]=true=>z4f (p:=y2d v.l) hlt HK.out h
   have HQ:=hE fun W=>x2q W 9998 v.l.jts[k].a v.l.jts[k].b
   have E1:=E.now hba.bel;have HA3:=hE hA;have HE:=hE fun (e:z0o) W E h=>y1y v e W E h
   unfold lvA at HE;(try unfold z1b at x3);(try unfold z1b at HE);(try unfold z1b at ⊢);rw[hA] at x3 HE ⊢;have hq0:=HQ.out
   cases ca:exB v.l v.l.jts[k].a with
   | false=>
    have HX:=hE (HNO.out (x7j ca));have HE1:=hE fun W E h=>(HE.out v.l.jts[k].a W E h)
    rw[ca] at HE1;clear hA ho HK HNO HYE ca HE hq0 HQ;generalize v.l.jts[k]=q at *;go_wp2_with fail
    refine (HE1.out _ E1 hba.rd).mono ?_;rintro e w5 ⟨rfl,hb5⟩;have hB5:=(hba.now hb5).bel;clear x0 x1 x2 x3 x4 x5 hba hjb;go_wp2_with fail
    go_ret2
    exact Or.inl ⟨by rw[HX.out];decide,y2o HX.out.symm,hB5⟩
   | true=>
    have HE1:=hE fun W E h=>(HE.out v.l.jts[k].a W E h)
    have HE2:=hE fun W E h=>(HE.out v.l.jts[k].b W E h)
    rw[ca] at HE1
    cases cb:exB v.l v.l.jts[k].b with
    | false=>
     have HX:=hE (HNO.out (x7k cb));rw[cb] at HE2;clear hA ho HK HNO HYE ca cb HE hq0 HQ;generalize v.l.jts[k]=q at *;go_wp2_with fail
     refine (HE1.out _ E1 hba.rd).mono ?_;rintro e w5 ⟨rfl,hb5⟩;have hb5x:=hba.now hb5;have hj5:=hjb.now hb5;have E5:=E1.now hb5;clear x0 x1 x2 x3 x4 x5 hba hjb;have x0:=hb5x.x0;have x1:=hb5x.x1;have x2:=hb5x.x2;have x3:=hb5x.x3;have x4:=hb5x.x4;have x5:=hb5x.x5;have z2:w5.cell? ⟨wr.heap.size,2,none⟩=some (.int .i64 q.b.el):=hj5.cell 2;have z3:w5.cell? ⟨wr.heap.size,3,none⟩=some (.int .i64 q.b.sd):=hj5.cell 3;rw[HA3.out] at x3;go_wp2_with fail
     refine (HE2.out _ E5 hb5x.rd).mono ?_;rintro e w6 ⟨rfl,hb6⟩;have hB6:=(hb5x.now hb6).bel;clear x0 x1 x2 x3 x4 x5 hb5x hj5 z2 z3;go_wp2_with fail
     go_ret2
     exact Or.inl ⟨by rw[HX.out];decide,y2o HX.out.symm,hB6⟩
    | true=>
     rw[cb] at HE2
     cases cq:decide (v.l.jts[k].a=v.l.jts[k].b) with
     | true=>
      have HX:=hE (HNO.out (x7l cq));rw[cq] at hq0;clear hA ho HK HNO HYE ca cb HE HQ cq;generalize v.l.jts[k]=q at *;go_wp2_with fail
      refine (HE1.out _ E1 hba.rd).mono ?_;rintro e w5 ⟨rfl,hb5⟩;have hb5x:=hba.now hb5;have hj5:=hjb.now hb5;have E5:=E1.now hb5;clear x0 x1 x2 x3 x4 x5 hba hjb;have x0:=hb5x.x0;have x1:=hb5x.x1;have x2:=hb5x.x2;have x3:=hb5x.x3;have x4:=hb5x.x4;have x5:=hb5x.x5;have z2:w5.cell? ⟨wr.heap.size,2,none⟩=some (.int .i64 q.b.el):=hj5.cell 2;have z3:w5.cell? ⟨wr.heap.size,3,none⟩=some (.int .i64 q.b.sd):=hj5.cell 3;rw[HA3.out] at x3;go_wp2_with fail
      refine (HE2.out _ E5 hb5x.rd).mono ?_;rintro e w6 ⟨rfl,hb6⟩;have hB6:=(hb5x.now hb6).bel;have hj6:=hj5.now hb6;clear x0 x1 x2 x3 x4 x5 hb5x hj5 z2 z3;have z0:w6.cell? ⟨wr.heap.size,0,none⟩=some (.int .i64 q.a.el):=hj6.cell 0;have z1:w6.cell? ⟨wr.heap.size,1,none⟩=some (.int .i64 q.a.sd):=hj6.cell 1;have z2:w6.cell? ⟨wr.heap.size,2,none⟩=some (.int .i64 q.b.el):=hj6.cell 2;have z3:w6.cell? ⟨wr.heap.size,3,none⟩=some (.int .i64 q.b.sd):=hj6.cell 3;go_wp2_with fail
      go_ret2
      exact Or.inl ⟨by rw[HX.out];decide,y2o HX.out.symm,hB6⟩
     | false=>
      have HX:=hE (HYE.out (x7m ca cb cq));rw[cq] at hq0;clear hA ho HK HNO HYE ca cb HE HQ cq;generalize v.l.jts[k]=q at *;go_wp2_with fail
      refine (HE1.out _ E1 hba.rd).mono ?_;rintro e w5 ⟨rfl,hb5⟩;have hb5x:=hba.now hb5;have hj5:=hjb.now hb5;have E5:=E1.now hb5;clear x0 x1 x2 x3 x4 x5 hba hjb;have x0:=hb5x.x0;have x1:=hb5x.x1;have x2:=hb5x.x2;have x3:=hb5x.x3;have x4:=hb5x.x4;have x5:=hb5x.x5;have z2:w5.cell? ⟨wr.heap.size,2,none⟩=some (.int .i64 q.b.el):=hj5.cell 2;have z3:w5.cell? ⟨wr.heap.size,3,none⟩=some (.int .i64 q.b.sd):=hj5.cell 3;rw[HA3.out] at x3;go_wp2_with fail
      refine (HE2.out _ E5 hb5x.rd).mono ?_;rintro e w6 ⟨rfl,hb6⟩;have hb6x:=hb5x.now hb6;have hj6:=hj5.now hb6;clear x0 x1 x2 x3 x4 x5 hb5x hj5 z2 z3;have z0:w6.cell? ⟨wr.heap.size,0,none⟩=some (.int .i64 q.a.el):=hj6.cell 0;have z1:w6.cell? ⟨wr.heap.size,1,none⟩=some (.int .i64 q.a.sd):=hj6.cell 1;have z2:w6.cell? ⟨wr.heap.size,2,none⟩=some (.int .i64 q.b.el):=hj6.cell 2;have z3:w6.cell? ⟨wr.heap.size,3,none⟩=some (.int .i64 q.b.sd):=hj6.cell 3;go_wp2_with fail
      go_roundw
      case rel=>exact ⟨k+1,by omega,by go_num,hb6x,HX⟩
      case measure=>simp[intOf];omega
  ·have HAL:=hE (z5m hlt HK.out);have hmm:=@run_makeMap Tryz.prog;have x3:=hb.x3;have hltb:=hb.lt;have hbm:=hb.alloc (.map #[] 0);have x3':=hbm.x3;have hset:=z2c.made wr wr.heap.size rfl;have HDU:=hE fun h:¬(z3p v.l.jts).Nodup=>j1s HAL.out h
   have HDO:=hE fun h:(z3p v.l.jts).Nodup=>j1t HAL.out h
   clear HK hb;go_wp2_with fail
   clear hmm x3 x3';obtain ⟨B,hB⟩:∃ B,B=wr.heap.size:=⟨_,rfl⟩
   rw[←hB] at hset hltb ⊢;clear hB;go_loopw [44] (fun n wr=>∃ k:Nat,k≤v.l.jts.length∧n=.int .i64 k∧Lx w wr v∧z2c wr B (2*k) (z03 (v.l.jts.take k))∧Hid ((z3p (v.l.jts.take k)).Nodup)) (fun n _=>v.l.jts.length - (intOf n).toNat)
   case atStart=>exact ⟨0,nZ,rfl,hbm,hset,hE (by simp[z3p])⟩
   case round=>
    obtain ⟨k,hk,rfl,hb,hst,HB⟩:=hrel;clear hbm hset;by_cases hlt:k < v.l.jts.length
    ·have hki:(k:Int) < (v.l.jts.length:Int):=by omega
     obtain ⟨b,off,hA,lb,ho,y0,y1,y2,y3⟩:=hb.rd.r3.elJ hlt;have hjn:=y8f (List.all_eq_true.1 HAL.out v.l.jts[k] (uE hlt));have HNE:=hE hjn.2.2;obtain ⟨hoa,hob⟩:=ho;have HTK:Hid (v.l.jts.take (k+1)=v.l.jts.take k++[v.l.jts[k]]):=hE (tqS hlt);have HD1:=hE fun h:(z03 (v.l.jts.take k) v.l.jts[k].a).isSome=true=>HDU.out (y86 hlt (Or.inl h))
     have HD2:=hE fun h:(z03 (v.l.jts.take k) v.l.jts[k].b).isSome=true=>HDU.out (y86 hlt (Or.inr h))
     have HND:=hE fun (h1:(z03 (v.l.jts.take k) v.l.jts[k].a).isSome=false) (h2:(z03 (v.l.jts.take k) v.l.jts[k].b).isSome=false)=>x02 hlt HB.out h1 h2 hjn.2.2
     have hba:=hb.alloc (.cells #[.int .i64 v.l.jts[k].a.el,.int .i64 v.l.jts[k].a.sd,.int .i64 v.l.jts[k].b.el,.int .i64 v.l.jts[k].b.sd] 107);have hsta:=hst.alloc (.cells #[.int .i64 v.l.jts[k].a.el,.int .i64 v.l.jts[k].a.sd,.int .i64 v.l.jts[k].b.el,.int .i64 v.l.jts[k].b.sd] 107);have hjb:Blk (wr.alloc (.cells #[.int .i64 v.l.jts[k].a.el,.int .i64 v.l.jts[k].a.sd,.int .i64 v.l.jts[k].b.el,.int .i64 v.l.jts[k].b.sd] 107)) wr.heap.size 107 #[.int .i64 v.l.jts[k].a.el,.int .i64 v.l.jts[k].a.sd,.int .i64 v.l.jts[k].b.el,.int .i64 v.l.jts[k].b.sd]:=Blk.new _ _ _ _ rfl;have hBlt:=hst.lt;rw[hA];obtain ⟨ga,hga⟩:∃ g,(z03 (v.l.jts.take k) v.l.jts[k].a).getD ⟨0,0⟩=g:=⟨_,rfl⟩
     obtain ⟨gb,hgb⟩:∃ g,(z03 (v.l.jts.take k) v.l.jts[k].b).getD ⟨0,0⟩=g:=⟨_,rfl⟩
     have HGA:=hE hga;have HGB:=hE hgb;have hal1:=hba.alloc (.cells #[.int .i64 ga.el,.int .i64 ga.sd] 90);have hst1:=hsta.alloc (.cells #[.int .i64 ga.el,.int .i64 ga.sd] 90);have hjb1:=hjb.alloc (.cells #[.int .i64 ga.el,.int .i64 ga.sd] 90);have hal2:=hal1.alloc (.cells #[.int .i64 gb.el,.int .i64 gb.sd] 90);have hst2:=hst1.alloc (.cells #[.int .i64 gb.el,.int .i64 gb.sd] 90);have hjb2:=hjb1.alloc (.cells #[.int .i64 gb.el,.int .i64 gb.sd] 90);clear hA hga hgb hjn HB
     cases ca:(z03 (v.l.jts.take k) v.l.jts[k].a).isSome with
     | true=>
      have HX:=hE (HD1.out ca);have HCA:=hE ca;obtain ⟨cb,hcb⟩:∃ c,(z03 (v.l.jts.take k) v.l.jts[k].b).isSome=c:=⟨_,rfl⟩
      have HCB:=hE hcb;clear ca hcb HND HD1 HD2 HTK;generalize v.l.jts[k]=q at *;generalize v.l.jts.take k=js at *;go_wp2_with (first | (at_lookup;refine z0n _ rfl _ _ 133 rfl Tryz.underlying133 B (2*k) (z03 js) rfl hsta q.a hoa rfl ga HGA.out true HCA.out ?_) | (at_lookup;refine z0n _ rfl _ _ 133 rfl Tryz.underlying133 B (2*k) (z03 js) rfl hst1 q.b hob rfl gb HGB.out cb HCB.out ?_))
      go_ret2
      exact Or.inl ⟨by rw[HX.out];decide,y2o HX.out.symm,hal2.bel⟩
     | false=>
      have HCA:=hE ca
      cases cb:(z03 (v.l.jts.take k) v.l.jts[k].b).isSome with
      | true=>
       have HX:=hE (HD2.out cb);have HCB:=hE cb;clear ca cb HND HD1 HD2 HTK;generalize v.l.jts[k]=q at *;generalize v.l.jts.take k=js at *;go_wp2_with (first | (at_lookup;refine z0n _ rfl _ _ 133 rfl Tryz.underlying133 B (2*k) (z03 js) rfl hsta q.a hoa rfl ga HGA.out false HCA.out ?_) | (at_lookup;refine z0n _ rfl _ _ 133 rfl Tryz.underlying133 B (2*k) (z03 js) rfl hst1 q.b hob rfl gb HGB.out true HCB.out ?_))
       go_ret2
       exact Or.inl ⟨by rw[HX.out];decide,y2o HX.out.symm,hal2.bel⟩
      | false=>
       have HX:=hE (HND.out ca cb);have HCB:=hE cb;have HUA:Hid (∀ e,upE (upE (z03 (v.l.jts.take k)) v.l.jts[k].a v.l.jts[k].b) v.l.jts[k].b v.l.jts[k].a e=z03 (v.l.jts.take (k+1)) e):=hE fun e=>(j7g ca cb HNE.out e).trans (by rw[HTK.out])
       have HUB:Hid (∀ e,upE (upE (z03 (v.l.jts.take k)) v.l.jts[k].b v.l.jts[k].a) v.l.jts[k].a v.l.jts[k].b e=z03 (v.l.jts.take (k+1)) e):=hE fun e=>(j8z ca cb HNE.out e).trans (by rw[HTK.out])
       obtain ⟨js',hjs'⟩:∃ js',v.l.jts.take (k+1)=js':=⟨_,rfl⟩
       rw[hjs'] at HUA HUB;have HJS:=hE hjs';clear ca cb HND HD1 HD2 HTK hjs';generalize v.l.jts[k]=q at *;generalize v.l.jts.take k=js at *;go_wp2_with (first | (at_lookup;refine z0n _ rfl _ _ 133 rfl Tryz.underlying133 B (2*k) (z03 js) rfl hsta q.a hoa rfl ga HGA.out false HCA.out ?_) | (at_lookup;refine z0n _ rfl _ _ 133 rfl Tryz.underlying133 B (2*k) (z03 js) rfl hst1 q.b hob rfl gb HGB.out false HCB.out ?_))
       obtain ⟨W,hW⟩:∃ W,((wr.alloc (.cells #[.int .i64 q.a.el,.int .i64 q.a.sd,.int .i64 q.b.el,.int .i64 q.b.sd] 107)).alloc (.cells #[.int .i64 ga.el,.int .i64 ga.sd] 90)).alloc (.cells #[.int .i64 gb.el,.int .i64 gb.sd] 90)=W:=⟨_,rfl⟩
       rw[hW] at hal2 hst2 hjb2 ⊢;clear hW hal1 hst1 hjb1 hba hsta hjb y0 y1 y2 y3 hb hst;have hst3:=hst2.drew;have hal3:=hal2.drew;have hjb3:=hjb2.drew;obtain ⟨w6,r6,h6,g6⟩:=hst3.put (by unfold maxLen;omega) q.a q.b hoa;obtain ⟨w7,r7,h7,g7⟩:=h6.put (by unfold maxLen;omega) q.b q.a hob;obtain ⟨w8,r8,h8,g8⟩:=hst3.put (by unfold maxLen;omega) q.b q.a hob;obtain ⟨w9,r9,h9,g9⟩:=h8.put (by unfold maxLen;omega) q.a q.b hoa;have hBj:wr.heap.size≠B:=by omega
       have j6:Blk w6 wr.heap.size 107 #[.int .i64 q.a.el,.int .i64 q.a.sd,.int .i64 q.b.el,.int .i64 q.b.sd]:=(g6.block _ hjb3.lt (by simpa using hBj)).trans hjb3;have j7:Blk w7 wr.heap.size 107 #[.int .i64 q.a.el,.int .i64 q.a.sd,.int .i64 q.b.el,.int .i64 q.b.sd]:=(g7.block _ j6.lt (by simpa using hBj)).trans j6;have j8:Blk w8 wr.heap.size 107 #[.int .i64 q.a.el,.int .i64 q.a.sd,.int .i64 q.b.el,.int .i64 q.b.sd]:=(g8.block _ hjb3.lt (by simpa using hBj)).trans hjb3;have j9:Blk w9 wr.heap.size 107 #[.int .i64 q.a.el,.int .i64 q.a.sd,.int .i64 q.b.el,.int .i64 q.b.sd]:=(g9.block _ j8.lt (by simpa using hBj)).trans j8;have b6:=hal3.grown hr g6 (by omega);have b7:=b6.grown hr g7 (by omega);have b8:=hal3.grown hr g8 (by omega);have b9:=b8.grown hr g9 (by omega);have q6:w6.cell? ⟨wr.heap.size,0,none⟩=some (.int .i64 q.a.el)∧w6.cell? ⟨wr.heap.size,1,none⟩=some (.int .i64 q.a.sd)∧w6.cell? ⟨wr.heap.size,2,none⟩=some (.int .i64 q.b.el)∧w6.cell? ⟨wr.heap.size,3,none⟩=some (.int .i64 q.b.sd):=⟨j6.cell 0,j6.cell 1,j6.cell 2,j6.cell 3⟩
       have q7:w7.cell? ⟨wr.heap.size,0,none⟩=some (.int .i64 q.a.el)∧w7.cell? ⟨wr.heap.size,1,none⟩=some (.int .i64 q.a.sd)∧w7.cell? ⟨wr.heap.size,2,none⟩=some (.int .i64 q.b.el)∧w7.cell? ⟨wr.heap.size,3,none⟩=some (.int .i64 q.b.sd):=⟨j7.cell 0,j7.cell 1,j7.cell 2,j7.cell 3⟩
       have q8:w8.cell? ⟨wr.heap.size,0,none⟩=some (.int .i64 q.a.el)∧w8.cell? ⟨wr.heap.size,1,none⟩=some (.int .i64 q.a.sd)∧w8.cell? ⟨wr.heap.size,2,none⟩=some (.int .i64 q.b.el)∧w8.cell? ⟨wr.heap.size,3,none⟩=some (.int .i64 q.b.sd):=⟨j8.cell 0,j8.cell 1,j8.cell 2,j8.cell 3⟩
       have q9:w9.cell? ⟨wr.heap.size,0,none⟩=some (.int .i64 q.a.el)∧w9.cell? ⟨wr.heap.size,1,none⟩=some (.int .i64 q.a.sd)∧w9.cell? ⟨wr.heap.size,2,none⟩=some (.int .i64 q.b.el)∧w9.cell? ⟨wr.heap.size,3,none⟩=some (.int .i64 q.b.sd):=⟨j9.cell 0,j9.cell 1,j9.cell 2,j9.cell 3⟩
       have q5:W.drew.cell? ⟨wr.heap.size,0,none⟩=some (.int .i64 q.a.el)∧W.drew.cell? ⟨wr.heap.size,1,none⟩=some (.int .i64 q.a.sd)∧W.drew.cell? ⟨wr.heap.size,2,none⟩=some (.int .i64 q.b.el)∧W.drew.cell? ⟨wr.heap.size,3,none⟩=some (.int .i64 q.b.sd):=⟨hjb3.cell 0,hjb3.cell 1,hjb3.cell 2,hjb3.cell 3⟩
       have e7:=h7.ext HUA.out;have e9:=h9.ext HUB.out;clear h6 h7 h8 h9 g6 g7 g8 g9 j6 j7 j8 j9 b6 b8 hst2 hst3 hal2 hal3 hjb2 hjb3;have E7:=hE e7;have E9:=hE e9;have B7:=hE b7;have B9:=hE b9;clear e7 e9 b7 b9;go_region_held3 (fun w'=>w'.cell? ⟨wr.heap.size,0,none⟩=some (.int .i64 q.a.el)∧w'.cell? ⟨wr.heap.size,1,none⟩=some (.int .i64 q.a.sd)∧w'.cell? ⟨wr.heap.size,2,none⟩=some (.int .i64 q.b.el)∧w'.cell? ⟨wr.heap.size,3,none⟩=some (.int .i64 q.b.sd)) (first | assumption) (fail)
       all_goals (go_wp2_with fail)
       all_goals go_roundw
       case rel=>first
        | exact ⟨k+1,by omega,by go_num,B7.out,by rw[HJS.out];exact E7.out.kept (by omega),HX⟩
        | exact ⟨k+1,by omega,by go_num,B9.out,by rw[HJS.out];exact E9.out.kept (by omega),HX⟩
       case measure=>simp[intOf];omega
    ·have HX:=hE (HDO.out (by
      have h:=HB.out
      rwa [tlL (by omega)] at h))
     have hst':z2c wr B (2*k) (z03 v.l.jts):=by
      rw[tlL (by omega)] at hst;exact hst
     go_wp2_with fail;go_ret2
     exact Or.inr ⟨HX.out,B,2*k,rfl,hst',hb.bel⟩
theorem y9x (v:LV) (w:World) (E:y6h w) (hr:LvR w v) (hm3:v.l.jts.length≤140737488351232):Calls Tryz.prog 32 #[lvA v] w fun e w'=>e=.returned (.int .i64 (z8n v.l))∧Below w.heap.size w w':=by
 have hb0:=Lx.new hr;have x0:=hb0.x0;have x1:=hb0.x1;have x2:=hb0.x2;have x3:=hb0.x3;have x4:=hb0.x4;have x5:=hb0.x5;have H1:=hE fun W h=>y3e v W h
 have HJ3:=hE hm3;clear hm3
 cases c0:y84 v.l with
 | false=>
  have HX:=hE (j0t c0);rw[c0] at H1;clear c0;unfold lvA at * ;go_enter Tryz.func32,Tryz.ntmps32
  go_wp2_with fail;refine (H1.out _ hb0.rd).mono ?_;rintro e w1 ⟨rfl,hq1⟩;have hb1:=hb0.now hq1;clear x0 x1 x2 x3 x4 x5 hq1 hb0;have x0:=hb1.x0;have x1:=hb1.x1;have x2:=hb1.x2;have x3:=hb1.x3;have x4:=hb1.x4;have x5:=hb1.x5;go_wp2_with fail
  go_ret
  exact ⟨z0i HX.out.symm,hb1.bel⟩
 | true=>
  obtain ⟨hm2,hm1,hm4,hm5⟩:=j8e c0;have H2:=hE fun W h=>y1c v W h (by omega) (by omega) (by omega)
  have H3:=hE fun W h=>z9w v W h
  have H4:=hE fun W h=>z94 v (by omega) W h
  have H5:=hE fun W E h=>y3m v W E h HJ3.out
  have H6:=hE fun W E h B n he=>z8x v W E h (by omega) B n he
  have H7:=hE fun W h=>z8w v W h (by omega)
  rw[c0] at H1;obtain ⟨c1,hc1⟩:∃ c,nmC v.l=c:=⟨_,rfl⟩
  rw[hc1] at H2;by_cases h1:c1=0;case neg=>
   have HX:=hE (j5f c0 hc1 h1);have hne:(c1 != 0)=true:=by simpa using h1
   clear c0 hc1 h1 H3 H4 H5 H6 H7;unfold lvA at * ;go_enter Tryz.func32,Tryz.ntmps32
   go_wp2_with fail;refine (H1.out _ hb0.rd).mono ?_;rintro e w1 ⟨rfl,hq1⟩;have hb1:=hb0.now hq1;clear x0 x1 x2 x3 x4 x5 hq1 hb0;have x0:=hb1.x0;have x1:=hb1.x1;have x2:=hb1.x2;have x3:=hb1.x3;have x4:=hb1.x4;have x5:=hb1.x5;go_wp2_with fail
   refine (H2.out _ hb1.rd).mono ?_;rintro e w2 ⟨rfl,hq2⟩;have hb2:=hb1.now hq2;clear x0 x1 x2 x3 x4 x5 hq2 hb1;have x0:=hb2.x0;have x1:=hb2.x1;have x2:=hb2.x2;have x3:=hb2.x3;have x4:=hb2.x4;have x5:=hb2.x5;go_wp2_with fail
   go_ret;exact ⟨z0i HX.out.symm,hb2.bel⟩
  subst h1
  cases c2:v.l.els.all (x1h v.l) with
  | false=>
   have HX:=hE (x9u c0 hc1 (by unfold elB;rw[c2];rfl));rw[c2] at H3;clear c0 hc1 c2 H4 H5 H6 H7;unfold lvA at * ;go_enter Tryz.func32,Tryz.ntmps32
   go_wp2_with fail;refine (H1.out _ hb0.rd).mono ?_;rintro e w1 ⟨rfl,hq1⟩;have hb1:=hb0.now hq1;clear x0 x1 x2 x3 x4 x5 hq1 hb0;have x0:=hb1.x0;have x1:=hb1.x1;have x2:=hb1.x2;have x3:=hb1.x3;have x4:=hb1.x4;have x5:=hb1.x5;go_wp2_with fail
   refine (H2.out _ hb1.rd).mono ?_;rintro e w2 ⟨rfl,hq2⟩;have hb2:=hb1.now hq2;clear x0 x1 x2 x3 x4 x5 hq2 hb1;have x0:=hb2.x0;have x1:=hb2.x1;have x2:=hb2.x2;have x3:=hb2.x3;have x4:=hb2.x4;have x5:=hb2.x5;go_wp2_with fail
   refine (H3.out _ hb2.rd).mono ?_;rintro e w3 ⟨rfl,hq3⟩;have hb3:=hb2.now hq3;clear x0 x1 x2 x3 x4 x5 hq3 hb2;have x0:=hb3.x0;have x1:=hb3.x1;have x2:=hb3.x2;have x3:=hb3.x3;have x4:=hb3.x4;have x5:=hb3.x5;go_wp2_with fail
   go_ret
   exact ⟨z0i HX.out.symm,hb3.bel⟩
  | true=>
   rw[c2] at H3
   cases c3:j4n v.l with
   | false=>
    have HX:=hE (x9u c0 hc1 (by unfold elB;rw[c2,c3];rfl));rw[c3] at H4;clear c0 hc1 c2 c3 H5 H6 H7;unfold lvA at * ;go_enter Tryz.func32,Tryz.ntmps32
    go_wp2_with fail;refine (H1.out _ hb0.rd).mono ?_;rintro e w1 ⟨rfl,hq1⟩;have hb1:=hb0.now hq1;clear x0 x1 x2 x3 x4 x5 hq1 hb0;have x0:=hb1.x0;have x1:=hb1.x1;have x2:=hb1.x2;have x3:=hb1.x3;have x4:=hb1.x4;have x5:=hb1.x5;go_wp2_with fail
    refine (H2.out _ hb1.rd).mono ?_;rintro e w2 ⟨rfl,hq2⟩;have hb2:=hb1.now hq2;clear x0 x1 x2 x3 x4 x5 hq2 hb1;have x0:=hb2.x0;have x1:=hb2.x1;have x2:=hb2.x2;have x3:=hb2.x3;have x4:=hb2.x4;have x5:=hb2.x5;go_wp2_with fail
    refine (H3.out _ hb2.rd).mono ?_;rintro e w3 ⟨rfl,hq3⟩;have hb3:=hb2.now hq3;clear x0 x1 x2 x3 x4 x5 hq3 hb2;have x0:=hb3.x0;have x1:=hb3.x1;have x2:=hb3.x2;have x3:=hb3.x3;have x4:=hb3.x4;have x5:=hb3.x5;go_wp2_with fail
    refine (H4.out _ hb3.rd).mono ?_;rintro e w4 ⟨rfl,hq4⟩;have hb4:=hb3.now hq4;clear x0 x1 x2 x3 x4 x5 hq4 hb3;have x0:=hb4.x0;have x1:=hb4.x1;have x2:=hb4.x2;have x3:=hb4.x3;have x4:=hb4.x4;have x5:=hb4.x5;go_wp2_with fail
    go_ret
    exact ⟨z0i HX.out.symm,hb4.bel⟩
   | true=>
    rw[c3] at H4;have he:elB v.l=true:=by unfold elB;rw[c2,c3];rfl
    by_cases h5:jnC v.l=0;case neg=>
     obtain ⟨c5,hc5⟩:∃ c,jnC v.l=c:=⟨_,rfl⟩
     have HX:=hE (j5e c0 hc1 he hc5 (by rw[←hc5];exact h5));have hne:(c5 != 0)=true:=by rw[←hc5];simpa using h5
     have HJP:Hid (∀ e w W',y2u w v.l e W'→e=.returned (.tuple #[.map none,.int .i64 c5])∧Below w.heap.size w W'):=hE fun e w W' h=>by
      rcases h with ⟨_,h1,h2⟩ | ⟨h0,_⟩
      ·exact ⟨by rw[←hc5];exact h1,h2⟩
      ·exact absurd h0 h5
     clear c0 hc1 c2 c3 he h5 hc5 H6 H7;unfold lvA at * ;go_enter Tryz.func32,Tryz.ntmps32
     go_wp2_with fail;refine (H1.out _ hb0.rd).mono ?_;rintro e w1 ⟨rfl,hq1⟩;have hb1:=hb0.now hq1;clear x0 x1 x2 x3 x4 x5 hq1 hb0;have x0:=hb1.x0;have x1:=hb1.x1;have x2:=hb1.x2;have x3:=hb1.x3;have x4:=hb1.x4;have x5:=hb1.x5;go_wp2_with fail
     refine (H2.out _ hb1.rd).mono ?_;rintro e w2 ⟨rfl,hq2⟩;have hb2:=hb1.now hq2;clear x0 x1 x2 x3 x4 x5 hq2 hb1;have x0:=hb2.x0;have x1:=hb2.x1;have x2:=hb2.x2;have x3:=hb2.x3;have x4:=hb2.x4;have x5:=hb2.x5;go_wp2_with fail
     refine (H3.out _ hb2.rd).mono ?_;rintro e w3 ⟨rfl,hq3⟩;have hb3:=hb2.now hq3;clear x0 x1 x2 x3 x4 x5 hq3 hb2;have x0:=hb3.x0;have x1:=hb3.x1;have x2:=hb3.x2;have x3:=hb3.x3;have x4:=hb3.x4;have x5:=hb3.x5;go_wp2_with fail
     refine (H4.out _ hb3.rd).mono ?_;rintro e w4 ⟨rfl,hq4⟩;have hb4:=hb3.now hq4;clear x0 x1 x2 x3 x4 x5 hq4 hb3;have x0:=hb4.x0;have x1:=hb4.x1;have x2:=hb4.x2;have x3:=hb4.x3;have x4:=hb4.x4;have x5:=hb4.x5;go_wp2_with fail
     refine (H5.out _ (E.now hb4.bel) hb4.rd).mono ?_;intro e w5 hpost;obtain ⟨rfl,hq5⟩:=HJP.out _ _ _ hpost;clear hpost;have hb5:=hb4.now hq5;clear x0 x1 x2 x3 x4 x5 hq5 hb4;have x0:=hb5.x0;have x1:=hb5.x1;have x2:=hb5.x2;have x3:=hb5.x3;have x4:=hb5.x4;have x5:=hb5.x5;go_wp2_with fail
     go_ret;exact ⟨z0i HX.out.symm,hb5.bel⟩
    have HJP:Hid (∀ e w W',y2u w v.l e W'→∃ B n,e=.returned (.tuple #[.map (some B),.int .i64 0])∧z2c W' B n (z03 v.l.jts)∧Below w.heap.size w W'):=hE fun e w W' h=>by
     rcases h with ⟨h0,_⟩ | ⟨_,h⟩
     ·exact absurd h5 h0
     ·exact h
    obtain ⟨c6,hc6⟩:∃ c,sgC v.l=c:=⟨_,rfl⟩
    rw[hc6] at H6;by_cases h6:c6=0;case neg=>
     have HX:=hE (j5g c0 hc1 he h5 hc6 h6);have hne:(c6 != 0)=true:=by simpa using h6
     clear c0 hc1 c2 c3 he h5 hc6 h6 H7;unfold lvA at * ;go_enter Tryz.func32,Tryz.ntmps32
     go_wp2_with fail;refine (H1.out _ hb0.rd).mono ?_;rintro e w1 ⟨rfl,hq1⟩;have hb1:=hb0.now hq1;clear x0 x1 x2 x3 x4 x5 hq1 hb0;have x0:=hb1.x0;have x1:=hb1.x1;have x2:=hb1.x2;have x3:=hb1.x3;have x4:=hb1.x4;have x5:=hb1.x5;go_wp2_with fail
     refine (H2.out _ hb1.rd).mono ?_;rintro e w2 ⟨rfl,hq2⟩;have hb2:=hb1.now hq2;clear x0 x1 x2 x3 x4 x5 hq2 hb1;have x0:=hb2.x0;have x1:=hb2.x1;have x2:=hb2.x2;have x3:=hb2.x3;have x4:=hb2.x4;have x5:=hb2.x5;go_wp2_with fail
     refine (H3.out _ hb2.rd).mono ?_;rintro e w3 ⟨rfl,hq3⟩;have hb3:=hb2.now hq3;clear x0 x1 x2 x3 x4 x5 hq3 hb2;have x0:=hb3.x0;have x1:=hb3.x1;have x2:=hb3.x2;have x3:=hb3.x3;have x4:=hb3.x4;have x5:=hb3.x5;go_wp2_with fail
     refine (H4.out _ hb3.rd).mono ?_;rintro e w4 ⟨rfl,hq4⟩;have hb4:=hb3.now hq4;clear x0 x1 x2 x3 x4 x5 hq4 hb3;have x0:=hb4.x0;have x1:=hb4.x1;have x2:=hb4.x2;have x3:=hb4.x3;have x4:=hb4.x4;have x5:=hb4.x5;go_wp2_with fail
     refine (H5.out _ (E.now hb4.bel) hb4.rd).mono ?_;intro e w5 hpost;obtain ⟨B,n,rfl,hE5,hq5⟩:=HJP.out _ _ _ hpost;clear hpost;have hb5:=hb4.now hq5;clear x0 x1 x2 x3 x4 x5 hq5 hb4;have x0:=hb5.x0;have x1:=hb5.x1;have x2:=hb5.x2;have x3:=hb5.x3;have x4:=hb5.x4;have x5:=hb5.x5;go_wp2_with fail
     refine (H6.out _ (E.now hb5.bel) hb5.rd B n hE5).mono ?_;rintro e w6 ⟨rfl,hq6⟩;clear hE5;have hb6:=hb5.now hq6;clear x0 x1 x2 x3 x4 x5 hq6 hb5;have x0:=hb6.x0;have x1:=hb6.x1;have x2:=hb6.x2;have x3:=hb6.x3;have x4:=hb6.x4;have x5:=hb6.x5;go_wp2_with fail
     go_ret;exact ⟨z0i HX.out.symm,hb6.bel⟩
    subst h6;have HX:=hE (j5d c0 hc1 he h5 hc6);clear c0 hc1 c2 c3 he h5 hc6;unfold lvA at * ;go_enter Tryz.func32,Tryz.ntmps32
    go_wp2_with fail;refine (H1.out _ hb0.rd).mono ?_;rintro e w1 ⟨rfl,hq1⟩;have hb1:=hb0.now hq1;clear x0 x1 x2 x3 x4 x5 hq1 hb0;have x0:=hb1.x0;have x1:=hb1.x1;have x2:=hb1.x2;have x3:=hb1.x3;have x4:=hb1.x4;have x5:=hb1.x5;go_wp2_with fail
    refine (H2.out _ hb1.rd).mono ?_;rintro e w2 ⟨rfl,hq2⟩;have hb2:=hb1.now hq2;clear x0 x1 x2 x3 x4 x5 hq2 hb1;have x0:=hb2.x0;have x1:=hb2.x1;have x2:=hb2.x2;have x3:=hb2.x3;have x4:=hb2.x4;have x5:=hb2.x5;go_wp2_with fail
    refine (H3.out _ hb2.rd).mono ?_;rintro e w3 ⟨rfl,hq3⟩;have hb3:=hb2.now hq3;clear x0 x1 x2 x3 x4 x5 hq3 hb2;have x0:=hb3.x0;have x1:=hb3.x1;have x2:=hb3.x2;have x3:=hb3.x3;have x4:=hb3.x4;have x5:=hb3.x5;go_wp2_with fail
    refine (H4.out _ hb3.rd).mono ?_;rintro e w4 ⟨rfl,hq4⟩;have hb4:=hb3.now hq4;clear x0 x1 x2 x3 x4 x5 hq4 hb3;have x0:=hb4.x0;have x1:=hb4.x1;have x2:=hb4.x2;have x3:=hb4.x3;have x4:=hb4.x4;have x5:=hb4.x5;go_wp2_with fail
    refine (H5.out _ (E.now hb4.bel) hb4.rd).mono ?_;intro e w5 hpost;obtain ⟨B,n,rfl,hE5,hq5⟩:=HJP.out _ _ _ hpost;clear hpost;have hb5:=hb4.now hq5;clear x0 x1 x2 x3 x4 x5 hq5 hb4;have x0:=hb5.x0;have x1:=hb5.x1;have x2:=hb5.x2;have x3:=hb5.x3;have x4:=hb5.x4;have x5:=hb5.x5;go_wp2_with fail
    refine (H6.out _ (E.now hb5.bel) hb5.rd B n hE5).mono ?_;rintro e w6 ⟨rfl,hq6⟩;clear hE5;have hb6:=hb5.now hq6;clear x0 x1 x2 x3 x4 x5 hq6 hb5;have x0:=hb6.x0;have x1:=hb6.x1;have x2:=hb6.x2;have x3:=hb6.x3;have x4:=hb6.x4;have x5:=hb6.x5;go_wp2_with fail
    refine (H7.out _ hb6.rd).mono ?_;rintro e w7 ⟨rfl,hq7⟩;have hb7:=hb6.now hq7;clear x0 x1 x2 x3 x4 x5 hq7 hb6;have x0:=hb7.x0;have x1:=hb7.x1;have x2:=hb7.x2;have x3:=hb7.x3;have x4:=hb7.x4;have x5:=hb7.x5;go_wp2_with fail
    go_ret;exact ⟨z0i HX.out.symm,hb7.bel⟩
end Go.Proofs.YtpenlfedkacglaaGreatDoor
