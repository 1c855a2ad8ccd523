import Derived.Test.YtpenlfedkacglaaGreatDoorL03
set_option maxRecDepth 100000
set_option maxHeartbeats 40000000
set_option linter.all false
namespace Go.Proofs.YtpenlfedkacglaaGreatDoor
open Go.RowKit
open Go.Maps (Keyed)
attribute [local go_sem] z05 z07 z01 z02
attribute [-go_sem] run_equalIn_agg
def z81 (w:World) (T:TypeId) (g cap:Nat) (l:List (List UInt8)):Prop:=∃ cur:Array Value,Blk w g T cur∧cur.size=cap∧cur.toList.take l.length=l.map (fun x=>Value.string (bs x))∧(l.length≤cap∧cap≤maxLen)
section
variable {w w':World} {T:TypeId} {g cap:Nat} {l:List (List UInt8)}
theorem z81.now (h:z81 w T g cap l) (hb:Below w.heap.size w w'):z81 w' T g cap l:=by
 obtain ⟨cur,h1,h2⟩:=h;exact ⟨cur,h1.now hb,h2⟩
theorem z81.lt (h:z81 w T g cap l):g < w.heap.size:=by
 obtain ⟨cur,h1,h2⟩:=h;exact h1.lt
theorem z81.at (h:z81 w T g cap l) {i:Nat} (hi:i < l.length):w.cell? ⟨g,i,none⟩=some (.string (bs l[i]))∧∀ q,w.frozen? ⟨g,q,none⟩=false:=by
 obtain ⟨cur,h1,h2,h3,h4⟩:=h;refine ⟨?_,fun q=>h1.free q⟩;rw[h1.cell];have e:(cur.toList.take l.length)[i]? = some (.string (bs l[i])):=by rw[h3,List.getElem?_map,gqE hi];rfl
 rw[List.getElem?_take,if_pos hi,Array.getElem?_toList] at e;exact e
theorem z81.own (h:z81 w T g cap l) {base:Nat} (hg:base≤g):w.ownsRow base T 1 (.slice (some ⟨g,0,none⟩) l.length cap) l.length (l.map fun x=>Value.string (bs x)):=by
 obtain ⟨cur,h1,h2,h3,h4,h5⟩:=h;exact ⟨by simp,Or.inr ⟨g,cap,cur,rfl,hg,h1,h4,h5,by omega,by simpa using h3⟩⟩
end
theorem z81.rds {w:World} {T:TypeId} {g cap:Nat} {l:List (List UInt8)} (h:z81 w T g cap l) (hx:∀ x∈l,x.length≤maxLen):RdS cS w (Lt w) (some ⟨g,0,none⟩) l:=by
 refine fun _=>⟨g,0,rfl,h.lt,fun i x hi=>⟨[.string (bs x)],⟨rfl,hx x (List.mem_of_getElem? hi)⟩,fun j u hu=>?_⟩⟩
 obtain ⟨hlt,rfl⟩:=List.getElem?_eq_some_iff.1 hi
 match j,hu with
 | 0,hu=>
  simp only[List.getElem?_cons_zero,qE] at hu;subst hu;have:=(h.at hlt).1;have e:0+i*cS.size+0=i:=by simp[cS]
  rw[e]
  exact this
 | j+1,hu=>simp at hu
theorem z81.x4k {w:World} {T:TypeId} {g cap:Nat} {l:List (List UInt8)} {base n:Nat} (h:w.ownsRow base T 1 (.slice (some ⟨g,0,none⟩) n cap) n (l.map fun x=>Value.string (bs x))) (hn:n=l.length):z81 w T g cap l:=by
 subst hn;rcases h.2 with ⟨h0,_⟩ | ⟨g',cap',cur,hv,h1,h2,h3,h4,h5,h6⟩
 ·cases h0
 ·simp only[Value.slice.injEq,qE,Addr.mk.injEq] at hv;obtain ⟨⟨rfl,_,_⟩,_,rfl⟩:=hv;exact ⟨cur,h2,by omega,by simpa using h6,h3,h4⟩
theorem z81.kept {w w':World} {T:TypeId} {g cap:Nat} {l:List (List UInt8)} {B:Nat} (h:z81 w T g cap l) (hg:w.grownBy w' (some B)) (hne:g≠B):z81 w' T g cap l:=by
 have hlt:=h.lt;obtain ⟨cur,h1,h2⟩:=h;exact ⟨cur,(hg.block g hlt (by simpa using hne)).trans h1,h2⟩
theorem z81.made (w:World) (T:TypeId) (g cap:Nat) (hg:g=w.heap.size) (hc:cap≤maxLen) (z:Value):z81 (w.alloc (.cells (List.replicate cap z).toArray T)) T g cap []:=
 ⟨_,Blk.new _ _ _ _ hg,by simp,by simp,nZ,hc⟩
theorem Lx.grown {w0 w w':World} {v:LV} {B:Nat} (h:Lx w0 w v) (hr:LvR w0 v) (hg:w.grownBy w' (some B)) (hB:w0.heap.size < B):Lx w0 w' v:=
 have hb:Below w0.heap.size w0 w':=h.bel.grown hg h.bel.size fun k hk=>by simp only[qE] at hk;omega
 ⟨hb,(hg.block _ h.lt (by simp;omega)).trans h.blk,hr.now hb⟩
theorem y8z (z:Value) (n:Nat) (h:z.cells=#[z]):madeCells z.cells n=(List.replicate n z).toArray:=by
 unfold madeCells;apply Array.toList_inj.1;rw[h];apply List.ext_getElem?;intro i;by_cases hi:i < n
 ·simp[hi,Nat.mod_one]
 ·simp[hi]
theorem j6i {s:List UInt8} {b:Bool} (h:nameB s=b) (w:World) (hs:s.length≤maxLen):Calls Tryz.prog 115 #[.string (bs s)] w fun e w'=>e=.returned (.bool b)∧Below w.heap.size w w':=h▸name_any s w hs
theorem mkStr (N:Nat) (hN:N≤1000000) (W:World):(Instr.makeSlice 22 (.int .i64 0) (.int .i64 (N:Int))).run Tryz.prog W=.ok (.slice (some ⟨W.heap.size,0,none⟩) 0 N) (W.alloc (.cells (List.replicate N (Value.string ByteArray.empty)).toArray 9)):=by
 obtain ⟨i0,hi,hz0,hz1,hz2⟩:=info_parts y8q;have h:=run_make (P:=Tryz.prog) W 22 9 i0 (.string ByteArray.empty) Tryz.underlying22 hi hz0 .i64 .i64 0 (N:Int) (by omega) (by omega) (by rw[hz2];omega) (by omega);rw[hz1,show ((N:Int)).toNat=N by omega,Nat.mul_one,y8z _ _ rfl] at h;exact h
theorem z9s {w:World} {S:Nat→Prop} {a:Option Addr} {l:List (List UInt8)} {d:Nat} (h:RdS cS w S a l) (hm:l.length≤maxLen∧l.length≤d):(cL cS).rd w S [.slice a l.length d] l:=⟨a,d,rfl,hm,h⟩
theorem k0a {w:World} {g:Nat} {T:TypeId} {a1 a2 a3 a4:Option Addr} {d1 d2 d3 d4:Nat} {l1 l2 l3 l4:List (List UInt8)} (h:Blk w g T #[.slice a1 l1.length d1,.slice a2 l2.length d2,.slice a3 l3.length d3,.slice a4 l4.length d4])
  (h1:(cL cS).rd w (Lt w) [.slice a1 l1.length d1] l1) (h2:(cL cS).rd w (Lt w) [.slice a2 l2.length d2] l2) (h3:(cL cS).rd w (Lt w) [.slice a3 l3.length d3] l3) (h4:(cL cS).rd w (Lt w) [.slice a4 l4.length d4] l4):RdS (cL cS) w (Lt w) (some ⟨g,0,none⟩) [l1,l2,l3,l4]:=by
 refine fun _=>⟨g,0,rfl,h.lt,fun i x hx=>?_⟩
 have key:∀ (i:Nat) (u:Value),(#[Value.slice a1 l1.length d1,.slice a2 l2.length d2,.slice a3 l3.length d3,.slice a4 l4.length d4])[i]? = some u→∀ (j:Nat) (y:Value),[u][j]? = some y→w.cell? ⟨g,0+i*(cL cS).size+j,none⟩=some y:=by
  intro i u hu j y hy
  match j,hy with
  | 0,hy=>
   simp only[List.getElem?_cons_zero,qE] at hy;subst hy;have e:0+i*(cL cS).size+0=i:=by simp[cL]
   rw[e,h.cell,hu]
  | j+1,hy=>simp at hy
 match i,hx with
 | 0,hx=>simp at hx;subst hx;exact ⟨_,h1,key 0 _ rfl⟩
 | 1,hx=>simp at hx;subst hx;exact ⟨_,h2,key 1 _ rfl⟩
 | 2,hx=>simp at hx;subst hx;exact ⟨_,h3,key 2 _ rfl⟩
 | 3,hx=>simp at hx;subst hx;exact ⟨_,h4,key 3 _ rfl⟩
 | i+4,hx=>simp at hx
theorem RdS.elL {w:World} {S:Nat→Prop} {A:Option Addr} {l:List (List (List UInt8))} (h:RdS (cL cS) w S A l) {i:Nat} (hi:i < l.length) :
  ∃ b off A1 c1,A=some ⟨b,off,none⟩∧S b∧w.cell? ⟨b,off+i,none⟩=some (.slice A1 l[i].length c1)∧(l[i].length≤maxLen∧l[i].length≤c1)∧RdS cS w S A1 l[i]:=by
 obtain ⟨b,off,h1,h2,h3⟩:=h (by omega);obtain ⟨ys,⟨A1,c1,rfl,h4,h5⟩,h6⟩:=h3 i l[i] (gqE hi);have:=h6 0 _ rfl;have e:off+i*(cL cS).size+0=off+i:=by simp[cL]
 rw[e] at this;exact ⟨b,off,A1,c1,h1,h2,this,h4,h5⟩
def j0d (ls:Lns):Int:=if (ls.all fun l=>l.all nameB)=false then 3 else if (ls.all fun l=>decide l.Nodup)=false then 8 else 0
def z6r (l:Lay):Lns:=[[l.name],l.secs,l.els.map Elt.name,l.sgs.map Sgn.name]
theorem j6j (l:Lay):nmC l=j0d (z6r l):=by
 unfold nmC j0d;have e1:((z6r l).all fun l=>l.all nameB)=j6m l:=by simp[z6r,j6m,List.all_map,Function.comp_def]
 have e2:((z6r l).all fun l=>decide l.Nodup)=j5n l:=by simp[z6r,j5n]
 rw[e1,e2]
theorem x4e {ls:Lns} {i j:Nat} (hi:i < ls.length) (hj:j < ls[i].length) (h:nameB ls[i][j]=false):j0d ls=3:=by
 unfold j0d;rw[if_pos (z8n hi (z8n hj h))]
theorem x8s {ls:Lns} {i j:Nat} (ha:(ls.all fun l=>l.all nameB)=true) (hi:i < ls.length) (hj:j < ls[i].length) (h:ls[i][j]∈ls[i].take j):j0d ls=8:=by
 unfold j0d;rw[if_neg (by rw[ha];simp),if_pos (z8n hi (dFf (z5u hj h)))]
theorem j2o {ls:Lns} (ha:(ls.all fun l=>l.all nameB)=true) (hb:(ls.all fun l=>decide l.Nodup)=true):j0d ls=0:=by
 unfold j0d;rw[if_neg (by rw[ha];simp),if_neg (by rw[hb];simp)]
theorem y1l (v:LV) (w:World) (hr:LvR w v) (hm1:v.l.secs.length≤1000) (hm2:v.l.els.length≤1000) (hm4:v.l.sgs.length≤1000):Calls Tryz.prog 73 #[lvA v] w fun e w'=>e=.returned (.int .i64 (nmC v.l))∧Below w.heap.size w w':=by
 obtain ⟨i0,hi0,hz0,hz1,hz2⟩:=info_parts y8q;have hbx:=Lx.new hr;have HC:=hE (j6j v.l);have mk1:=mkStr v.l.els.length (by omega);have HNM:Hid (∀ l:List Elt,True):=hE (fun _=>trivial);unfold lvA;go_enter Tryz.func73,Tryz.ntmps73
 go_wp2_with fail;have hs1:z81 ((w.alloc (.cells (z1c v) 28)).alloc (.cells (List.replicate v.l.els.length (Value.string ByteArray.empty)).toArray 9)) 9 (w.heap.size+1) v.l.els.length []:=z81.made _ _ _ _ (by simp) (by unfold maxLen;omega) _;have hbx1:=hbx.alloc (.cells (List.replicate v.l.els.length (Value.string ByteArray.empty)).toArray 9);clear mk1 hbx;go_loopw [3,26] (fun s n wr=>∃ k:Nat,k≤v.l.els.length∧n=.int .i64 k∧s=.slice (some ⟨w.heap.size+1,0,none⟩) k v.l.els.length∧z81 wr 9 (w.heap.size+1) v.l.els.length ((v.l.els.take k).map Elt.name)∧Lx w wr v) (fun _ n _=>v.l.els.length - (intOf n).toNat)
 case atStart=>exact ⟨0,nZ,rfl,rfl,hs1,hbx1⟩
 case round=>
  obtain ⟨k,hk,rfl,rfl,hs,hb⟩:=hrel;clear hbx1 hs1;by_cases hlt:k < v.l.els.length
  ·have hki:(k:Int) < (v.l.els.length:Int):=by omega
   obtain ⟨b,off,hA,lb,ho,y0,y1,y2,y3,y4,y5,y6⟩:=hb.rd.r2.elE hlt;have hba:=hb.alloc (.cells #[.string (bs v.l.els[k].name),.int .i64 v.l.els[k].kind,.int .i64 v.l.els[k].len,.int .i64 v.l.els[k].grd,.int .i64 v.l.els[k].spd,.int .i64 v.l.els[k].slow,.int .i64 v.l.els[k].sec] 103);have hbb:=hba.alloc (.cells #[.string (bs v.l.els[k].name)] 9);have hsb:=(hs.now (bQ.alloc nL (.cells #[.string (bs v.l.els[k].name),.int .i64 v.l.els[k].kind,.int .i64 v.l.els[k].len,.int .i64 v.l.els[k].grd,.int .i64 v.l.els[k].spd,.int .i64 v.l.els[k].slow,.int .i64 v.l.els[k].sec] 103))).now (bQ.alloc nL (.cells #[.string (bs v.l.els[k].name)] 9));have hal:((wr.alloc (.cells #[.string (bs v.l.els[k].name),.int .i64 v.l.els[k].kind,.int .i64 v.l.els[k].len,.int .i64 v.l.els[k].grd,.int .i64 v.l.els[k].spd,.int .i64 v.l.els[k].slow,.int .i64 v.l.els[k].sec] 103)).alloc (.cells #[.string (bs v.l.els[k].name)] 9)).cell? ⟨wr.heap.size+1,0,none⟩=some (.string (bs v.l.els[k].name)):=(Blk.new _ _ _ _ (by simp)).cell 0;have HT:Hid ((v.l.els.take (k+1)).map Elt.name=(v.l.els.take k).map Elt.name++[v.l.els[k].name]):=hE (by rw[tqS hlt,List.map_append];rfl);have hown:=hsb.own (base:=w.heap.size+1) nL;have hlen:((v.l.els.take k).map Elt.name).length=k:=by simp;omega
   rw[hlen] at hown;have HLN:=hE hlen;rw[hA];clear hA ho hlen hsb;generalize v.l.els[k]=q at *;generalize (v.l.els.take k).map Elt.name=ws at *;go_wp2_with (at_builtin;go_loud (refine wpList_append_fits _ rfl _ _ 22 rfl (w.heap.size+1) 9 i0 1 Tryz.underlying22 hi0 hz1 (w.heap.size+1) k v.l.els.length _ rfl hown ⟨wr.heap.size+1,0,none⟩ 1 1 [.string (bs q.name)] (by simp[Act.eval]) rfl (fun j u hj=>by (match j,hj with | 0,hj=>(simp at hj;subst hj;exact hal) | j+1,hj=>simp at hj)) (fun u hu=>by (simp at hu;subst hu;rfl)) (by omega) ?_);intro w5 hown5 hgr5)
   have hs5:=z81.x4k (l:=ws++[q.name]) (by simpa using hown5) (by rw[qL,HLN.out];rfl);go_roundw
   case rel=>exact ⟨k+1,by omega,by go_num,by go_num,by rw[HT.out];exact hs5,hbb.grown hr hgr5 (by omega)⟩
   case measure=>simp[intOf];omega
  ·obtain rfl:k=v.l.els.length:=by omega
   rw[List.take_length] at hs;have mk2:=mkStr v.l.sgs.length (by omega);have y4:=hb.x4;have hlt4:=hb.lt;have hbx2:=hb.alloc (.cells (List.replicate v.l.sgs.length (Value.string ByteArray.empty)).toArray 9);have z4:=hbx2.x4;have hs1:=hs.now (bQ.alloc nL (.cells (List.replicate v.l.sgs.length (Value.string ByteArray.empty)).toArray 9));have hs2:z81 (wr.alloc (.cells (List.replicate v.l.sgs.length (Value.string ByteArray.empty)).toArray 9)) 9 wr.heap.size v.l.sgs.length []:=z81.made _ _ _ _ rfl (by unfold maxLen;omega) _;have hg12:=hs.lt;clear hs hb;go_wp2_with fail
   clear mk2 y4 z4;obtain ⟨g2,hg2⟩:∃ g2,g2=wr.heap.size:=⟨_,rfl⟩
   rw[←hg2] at hs2 hg12 hlt4 ⊢;clear hg2;go_loopw [6,43] (fun s n wr=>∃ k:Nat,k≤v.l.sgs.length∧n=.int .i64 k∧s=.slice (some ⟨g2,0,none⟩) k v.l.sgs.length∧z81 wr 9 g2 v.l.sgs.length ((v.l.sgs.take k).map Sgn.name)∧z81 wr 9 (w.heap.size+1) v.l.els.length (v.l.els.map Elt.name)∧Lx w wr v) (fun _ n _=>v.l.sgs.length - (intOf n).toNat)
   case atStart=>exact ⟨0,nZ,rfl,rfl,hs2,hs1,hbx2⟩
   case round=>
    obtain ⟨k,hk,rfl,rfl,hs,hs1,hb⟩:=hrel;clear hbx2 hs2;by_cases hlt:k < v.l.sgs.length
    ·have hki:(k:Int) < (v.l.sgs.length:Int):=by omega
     obtain ⟨b,off,hA,lb,ho,y0,y1,y2,y3⟩:=hb.rd.r4.x36 hlt;have hba:=hb.alloc (.cells #[.string (bs v.l.sgs[k].name),.int .i64 v.l.sgs[k].pos.el,.int .i64 v.l.sgs[k].pos.sd,.int .i64 v.l.sgs[k].ovl] 105);have hbb:=hba.alloc (.cells #[.string (bs v.l.sgs[k].name)] 9);have hal1:=(Below.refl wr.heap.size wr).alloc nL (.cells #[.string (bs v.l.sgs[k].name),.int .i64 v.l.sgs[k].pos.el,.int .i64 v.l.sgs[k].pos.sd,.int .i64 v.l.sgs[k].ovl] 105);have hsb:=(hs.now hal1).now (bQ.alloc nL (.cells #[.string (bs v.l.sgs[k].name)] 9));have hsb1:=(hs1.now hal1).now (bQ.alloc nL (.cells #[.string (bs v.l.sgs[k].name)] 9));have hal:((wr.alloc (.cells #[.string (bs v.l.sgs[k].name),.int .i64 v.l.sgs[k].pos.el,.int .i64 v.l.sgs[k].pos.sd,.int .i64 v.l.sgs[k].ovl] 105)).alloc (.cells #[.string (bs v.l.sgs[k].name)] 9)).cell? ⟨wr.heap.size+1,0,none⟩=some (.string (bs v.l.sgs[k].name)):=(Blk.new _ _ _ _ (by simp)).cell 0;have HT:Hid ((v.l.sgs.take (k+1)).map Sgn.name=(v.l.sgs.take k).map Sgn.name++[v.l.sgs[k].name]):=hE (by rw[tqS hlt,List.map_append];rfl);have hown:=hsb.own (base:=g2) nL;have hlen:((v.l.sgs.take k).map Sgn.name).length=k:=by simp;omega
     rw[hlen] at hown;have HLN:=hE hlen;rw[hA];clear hA ho hlen hsb hal1 hs hs1;generalize v.l.sgs[k]=q at *;generalize (v.l.sgs.take k).map Sgn.name=ws at *;go_wp2_with (at_builtin;go_loud (refine wpList_append_fits _ rfl _ _ 22 rfl g2 9 i0 1 Tryz.underlying22 hi0 hz1 g2 k v.l.sgs.length _ rfl hown ⟨wr.heap.size+1,0,none⟩ 1 1 [.string (bs q.name)] (by simp[Act.eval]) rfl (fun j u hj=>by (match j,hj with | 0,hj=>(simp at hj;subst hj;exact hal) | j+1,hj=>simp at hj)) (fun u hu=>by (simp at hu;subst hu;rfl)) (by omega) ?_);intro w5 hown5 hgr5)
     have hs5:=z81.x4k (l:=ws++[q.name]) (by simpa using hown5) (by rw[qL,HLN.out];rfl);go_roundw
     case rel=>exact ⟨k+1,by omega,by go_num,by go_num,by rw[HT.out];exact hs5,hsb1.kept hgr5 (by omega),hbb.grown hr hgr5 (by omega)⟩
     case measure=>simp[intOf];omega
    ·obtain rfl:k=v.l.sgs.length:=by omega
     rw[List.take_length] at hs;have x0:=hb.x0;have x1:=hb.x1;have hlt5:=hb.lt;have al1:=(Below.refl wr.heap.size wr).alloc nL (.cells #[.string (bs v.l.name)] 9);have hb1:=hb.now al1;have x0':=hb1.x0;have x1':=hb1.x1;have hs1':=hs1.now al1;have hs2':=hs.now al1;have hN0:Blk (wr.alloc (.cells #[.string (bs v.l.name)] 9)) wr.heap.size 9 #[.string (bs v.l.name)]:=Blk.new _ _ _ _ rfl;have hl1:(v.l.els.map Elt.name).length=v.l.els.length:=by simp
     have hl2:(v.l.sgs.map Sgn.name).length=v.l.sgs.length:=by simp
     have al2:=(Below.refl _ (wr.alloc (.cells #[.string (bs v.l.name)] 9))).alloc nL (.cells #[.slice (some ⟨wr.heap.size,0,none⟩) 1 1,.slice v.A1 v.l.secs.length v.c1,.slice (some ⟨w.heap.size+1,0,none⟩) v.l.els.length v.l.els.length,.slice (some ⟨g2,0,none⟩) v.l.sgs.length v.l.sgs.length] 22);have hLB:Blk ((wr.alloc (.cells #[.string (bs v.l.name)] 9)).alloc (.cells #[.slice (some ⟨wr.heap.size,0,none⟩) 1 1,.slice v.A1 v.l.secs.length v.c1,.slice (some ⟨w.heap.size+1,0,none⟩) v.l.els.length v.l.els.length,.slice (some ⟨g2,0,none⟩) v.l.sgs.length v.l.sgs.length] 22)) (wr.heap.size+1) 22 #[.slice (some ⟨wr.heap.size,0,none⟩) ([v.l.name]:List (List UInt8)).length 1,.slice v.A1 v.l.secs.length v.c1,.slice (some ⟨w.heap.size+1,0,none⟩) (v.l.els.map Elt.name).length v.l.els.length,.slice (some ⟨g2,0,none⟩) (v.l.sgs.map Sgn.name).length v.l.sgs.length]:=by
      rw[hl1,hl2];exact Blk.new _ _ _ _ (by simp)
     have hs1f:=hs1'.now al2;have hs2f:=hs2'.now al2;have hN0f:=hN0.now al2;have hbf:=hb1.now al2;have nel:∀ x∈v.l.els.map Elt.name,x.length≤maxLen:=by
      intro x hx;obtain ⟨e,he,rfl⟩:=List.mem_map.1 hx;obtain ⟨i,hi⟩:=List.getElem?_of_mem he;obtain ⟨hil,rfl⟩:=List.getElem?_eq_some_iff.1 hi;obtain ⟨_,_,_,_,ho,_⟩:=hr.r2.elE hil;exact ho.1
     have nsg:∀ x∈v.l.sgs.map Sgn.name,x.length≤maxLen:=by
      intro x hx;obtain ⟨e,he,rfl⟩:=List.mem_map.1 hx;obtain ⟨i,hi⟩:=List.getElem?_of_mem he;obtain ⟨hil,rfl⟩:=List.getElem?_eq_some_iff.1 hi;obtain ⟨_,_,_,_,ho,_⟩:=hr.r4.x36 hil;exact ho.1
     have hrL:RdS (cL cS) ((wr.alloc (.cells #[.string (bs v.l.name)] 9)).alloc (.cells #[.slice (some ⟨wr.heap.size,0,none⟩) 1 1,.slice v.A1 v.l.secs.length v.c1,.slice (some ⟨w.heap.size+1,0,none⟩) v.l.els.length v.l.els.length,.slice (some ⟨g2,0,none⟩) v.l.sgs.length v.l.sgs.length] 22)) (Lt _) (some ⟨wr.heap.size+1,0,none⟩) (z6r v.l):=
      k0a hLB (z9s (fun _=>⟨wr.heap.size,0,rfl,hN0f.lt,fun i x hx=>by
        match i,hx with
        | 0,hx=>
         simp only[List.getElem?_cons_zero,qE] at hx;subst hx;refine ⟨[.string (bs v.l.name)],⟨rfl,hr.nm⟩,fun j u hu=>?_⟩
         match j,hu with
         | 0,hu=>
          simp only[List.getElem?_cons_zero,qE] at hu;subst hu
          exact hN0f.cell 0
         | j+1,hu=>simp at hu
        | i+1,hx=>simp at hx⟩) (by unfold maxLen;simp)) (z9s hbf.rd.r1 hr.n1) (z9s (hs1f.rds nel) (by rw[hl1];unfold maxLen;omega)) (z9s (hs2f.rds nsg) (by rw[hl2];unfold maxLen;omega))
     have hBf:=hbf.bel;have hbx0:Hid (∀ l∈z6r v.l,l.length≤1000):=hE (by
      intro l hl;simp only[z6r,List.mem_cons,List.not_mem_nil,or_false] at hl;rcases hl with rfl | rfl | rfl | rfl
      ·simp
      ·exact hm1
      ·rw[hl1];exact hm2
      ·rw[hl2];exact hm4)
     have hL4:Hid ((z6r v.l).length=4):=hE rfl;clear hb hs hs1 hN0 hs1' hs2' hb1 al1 al2 hLB hs1f hs2f hN0f hbf nel nsg hl1 hl2 x0' x1' hm1 hm2 hm4 hg12 hlt4 hr hlt hk;have hmm:=@run_makeMap Tryz.prog;generalize z6r v.l=ls at *;go_wp2_with fail
     clear hmm;obtain ⟨gL,hgL⟩:∃ gL,gL=wr.heap.size+1:=⟨_,rfl⟩
     generalize (wr.alloc (.cells #[.string (bs v.l.name)] 9)).alloc (.cells #[.slice (some ⟨wr.heap.size,0,none⟩) 1 1,.slice v.A1 v.l.secs.length v.c1,.slice (some ⟨w.heap.size+1,0,none⟩) v.l.els.length v.l.els.length,.slice (some ⟨g2,0,none⟩) v.l.sgs.length v.l.sgs.length] 22)=W3 at *;rw[←hgL] at hrL ⊢;clear hgL x0 x1 hlt5;go_loopw [63] (fun n wr=>∃ i:Nat,i≤4∧n=.int .i64 i∧Below w.heap.size w wr∧RdS (cL cS) wr (Lt wr) (some ⟨gL,0,none⟩) ls∧Hid ((ls.take i).all (fun l=>l.all nameB)=true)) (fun n _=>4 - (intOf n).toNat)
     case atStart=>exact ⟨0,by omega,rfl,hBf,hrL,hE (by simp)⟩
     case round=>
      obtain ⟨i,hi,rfl,hB,hR,HA⟩:=hrel;clear hBf hrL;by_cases hlt:i < 4
      ·have hil:i < ls.length:=by rw[hL4.out];exact hlt
       have hii:(i:Int) < 4:=by omega
       obtain ⟨b,off,A1,c1,hA,lb,y0,⟨hq1,hq2⟩,hq⟩:=hR.elL hil;simp only[qE,Addr.mk.injEq] at hA;obtain ⟨rfl,rfl,_⟩:=hA;rw[Nat.zero_add] at y0;have HNO:=hE fun (j:Nat) (hj:j < ls[i].length) (h:nameB ls[i][j]=false)=>HC.out.trans (x4e hil hj h)
       have HYE:=hE fun h:ls[i].all nameB=true=>z4i (p:=fun l:List (List UInt8)=>l.all nameB) hil HA.out h
       have hl3:=hbx0.out ls[i] (uE hil);clear HA;generalize ls[i]=l at *;go_wp2_with fail
       clear y0;go_loopw [69] (fun n wr=>∃ j:Nat,j≤l.length∧n=.int .i64 j∧Below w.heap.size w wr∧RdS (cL cS) wr (Lt wr) (some ⟨gL,0,none⟩) ls∧RdS cS wr (Lt wr) A1 l∧Hid ((l.take j).all nameB=true)) (fun n _=>l.length - (intOf n).toNat)
       case atStart=>exact ⟨0,nZ,rfl,hB,hR,hq,hE (by simp)⟩
       case round=>
        obtain ⟨j,hj,rfl,hB2,hR2,hq2',HB⟩:=hrel;clear hB hR hq;by_cases hjl:j < l.length
        ·have hji:(j:Int) < (l.length:Int):=by omega
         obtain ⟨b,off,rfl,lb,ho,y0⟩:=hq2'.elS hjl
         cases hn:nameB l[j] with
         | false=>
          have HX:=hE (HNO.out j hjl hn);have HN:=hE fun W=>j6i hn W ho
          clear hn HNO HYE HB hR2 hq2';generalize l[j]=s at *;go_wp2_with fail
          refine (HN.out _).mono ?_;rintro e w5 ⟨rfl,hb5⟩;go_wp2_with fail
          go_ret
          exact ⟨z0i HX.out.symm,z00 hB2 hB2.size hb5⟩
         | true=>
          have HT:=hE (z4i (p:=nameB) hjl HB.out hn);have HN:=hE fun W=>j6i hn W ho
          clear hn HB;generalize l[j]=s at *;go_wp2_with fail
          refine (HN.out _).mono ?_;rintro e w5 ⟨rfl,hb5⟩;go_wp2_with fail
          go_roundw
          case rel=>exact ⟨j+1,by omega,by go_num,z00 hB2 hB2.size hb5,hR2.now hb5,hq2'.now hb5,HT⟩
          case measure=>simp[intOf];omega
        ·have HT:=hE (HYE.out (z5l hjl HB.out));go_wp2_with fail
         go_roundw
         case rel=>exact ⟨i+1,by omega,by go_num,hB2,hR2,HT⟩
         case measure=>simp[intOf];omega
      ·have HAL:=hE (z5l (l:=ls) (p:=fun l:List (List UInt8)=>l.all nameB) (k:=i) (by rw[hL4.out];exact hlt) HA.out);have hsz1:=hB.size;clear hi HA;go_wp2_with fail
       go_loopw [80] (fun n wr=>∃ (i:Nat) (W:World),W=wr∧i≤4∧n=.int .i64 i∧Below w.heap.size w W∧RdS (cL cS) W (Lt W) (some ⟨gL,0,none⟩) ls∧Hid ((ls.take i).all (fun l=>decide l.Nodup)=true)) (fun n _=>4 - (intOf n).toNat)
       case atStart=>exact ⟨0,_,rfl,by omega,rfl,hB,hR,hE (by simp)⟩
       case round=>
        obtain ⟨i,W,rfl,hi,rfl,hB3,hR3,HA⟩:=hrel;clear hB hR hsz1;by_cases hlt:i < 4
        ·have hil:i < ls.length:=by rw[hL4.out];exact hlt
         have hii:(i:Int) < 4:=by omega
         obtain ⟨b,off,A1,c1,hA,lb,y0,⟨hq1,hq2⟩,hq⟩:=hR3.elL hil;simp only[qE,Addr.mk.injEq] at hA;obtain ⟨rfl,rfl,_⟩:=hA;rw[Nat.zero_add] at y0;have HNO:=hE fun (j:Nat) (hj:j < ls[i].length) (h:ls[i][j]∈ls[i].take j)=>HC.out.trans (x8s HAL.out hil hj h)
         have HYE:=hE fun h:ls[i].Nodup=>z4i (p:=fun l:List (List UInt8)=>decide l.Nodup) hil HA.out (dTt h)
         have hl3:=hbx0.out ls[i] (uE hil);have hal:=(Below.refl W.heap.size W).alloc nL (.map #[] 0);have hset:=z8w.made W Tryz.prog 9 4 W.heap.size rfl;have hBm:=z00 hB3 hB3.size hal;have hsz3:=hB3.size;clear HA;generalize ls[i]=l at *;have hmm:=@run_makeMap Tryz.prog;go_wp2_with fail
         clear y0 hmm;go_loopw [87] (fun n wr=>∃ j:Nat,j≤l.length∧n=.int .i64 j∧Below w.heap.size w wr∧Below W.heap.size W wr∧z8w Tryz.prog 9 4 wr W.heap.size j ((l.take j).map Lit.string)∧Hid ((l.take j).Nodup)) (fun n _=>l.length - (intOf n).toNat)
         case atStart=>exact ⟨0,nZ,rfl,hBm,hal,hset,hE (by simp)⟩
         case round=>
          obtain ⟨j,hj,rfl,hB4,hB5,hst,HB⟩:=hrel;clear hBm hal hset;by_cases hjl:j < l.length
          ·have hji:(j:Int) < (l.length:Int):=by omega
           obtain ⟨b,off,rfl,lb,ho,y0⟩:=(hq.now hB5).elS hjl;have hkey:=hE (y0y l[j] ho);have hany:=x2j (l.take j) l[j]
           cases hd:decide (l[j]∈l.take j) with
           | true=>
            have HX:=hE (HNO.out j hjl (oDt hd));have HAN:=hE (hany.trans hd);clear hd hany HNO HYE HB hR3 hq;generalize l[j]=s at *;generalize (l.take j).map Lit.string=ks at *;go_wp2_with (at_lookup;go_loud (refine z0u _ rfl _ _ 114 rfl 9 4 z7u Tryz.underlying114 Tryz.underlying4 (z4o _) W.heap.size j ks rfl hst _ _ rfl hkey.out true HAN.out ?_))
            go_ret
            exact ⟨z0i HX.out.symm,hB4⟩
           | false=>
            have HT:=hE (z3z hjl HB.out (of_decide_eq_false hd));have HAN:=hE (hany.trans hd);have HKS:Hid ((l.take (j+1)).map Lit.string=(l.take j).map Lit.string++[.string l[j]]):=hE (by rw[tqS hjl,List.map_append];rfl);clear hd hany HB;generalize l[j]=s at *;generalize (l.take j).map Lit.string=ks at *;go_wp2_with (first | (at_lookup;go_loud (refine z0u _ rfl _ _ 114 rfl 9 4 z7u Tryz.underlying114 Tryz.underlying4 (z4o _) W.heap.size j ks rfl hst _ _ rfl hkey.out false HAN.out ?_)) | (at_mapUpdate;go_loud (refine z3g _ rfl _ _ _ 114 rfl 9 4 z7u Tryz.underlying114 Tryz.underlying4 W.heap.size j ks rfl hst (by unfold maxLen;omega) _ _ rfl rfl hkey.out ?_);intro w6 hst6 hgr6))
            go_roundw
            case rel=>exact ⟨j+1,by omega,by go_num,hB4.grown hgr6 hB4.size (fun k hk=>by simp only[qE] at hk;omega),hB5.grown hgr6 hB5.size (fun k hk=>by simp only[qE] at hk;omega),by rw[HKS.out];exact hst6,HT⟩
            case measure=>simp[intOf];omega
          ·have hnd:=HB.out;rw[tlL (by omega)] at hnd;have HT:=hE (HYE.out hnd);clear hnd;go_wp2_with fail
           go_roundw
           case rel=>exact ⟨i+1,_,rfl,by omega,by go_num,hB4,hR3.now hB5,HT⟩
           case measure=>simp[intOf];omega
        ·have HX:=hE (HC.out.trans (j2o HAL.out (z5l (l:=ls) (p:=fun l:List (List UInt8)=>decide l.Nodup) (k:=i) (by rw[hL4.out];exact hlt) HA.out)));go_wp2_with fail
         go_ret;exact ⟨z0i HX.out.symm,hB3⟩
end Go.Proofs.YtpenlfedkacglaaGreatDoor
namespace Go.Proofs.YtpenlfedkacglaaGreatDoor
open Go.RowKit
open Go.Maps (Keyed)
attribute [local go_sem] z05 z07 z01 z02
attribute [-go_sem] run_equalIn_agg
theorem x6j {l:Lay} {b:Bls} (h:inB b.id 1 1073741824=false):y6s l b=false:=by unfold y6s;rw[h];rfl
theorem x6k {l:Lay} {b:Bls} (h:inB b.el 0 ((l.els.length:Int) - 1)=false):y6s l b=false:=by
 have h2:¬(0≤b.el∧b.el≤(l.els.length:Int) - 1):=by rw[←z1f,h];simp
 unfold y6s;rw[Bool.eq_false_iff];simp only[ne_eq,uT,dET];omega
theorem j0t {l:Lay} {b:Bls} {k:Nat} (h1:inB b.id 1 1073741824=true) (hk:b.el=(k:Int)) (hlt:k < l.els.length):y6s l b=inB b.off 0 l.els[k].len:=by
 have e1:z6o l b.el=l.els[k].len:=by
  unfold z6o;rw[hk,Int.toNat_natCast,gqE hlt];rfl
 unfold y6s;rw[e1,h1,dTt (show 0≤b.el by omega),dTt (show b.el < (l.els.length:Int) by omega)];simp
theorem j5c {l:Lay} (h:l.bls.all (y6s l)=false):blC l=1:=by unfold blC;rw[if_pos h]
theorem j0r {l:Lay} (h:l.bls.all (y6s l)=true) (hd:¬(l.bls.map Bls.id).Nodup):blC l=8:=by unfold blC;rw[if_neg (by rw[h];simp),if_pos (dFf hd)]
theorem j0s {l:Lay} (h:l.bls.all (y6s l)=true) (hd:(l.bls.map Bls.id).Nodup):blC l=0:=by unfold blC;rw[if_neg (by rw[h];simp),if_neg (by simp[hd])]
theorem z8x (v:LV) (w:World) (hr:LvR w v) (hm5:v.l.bls.length≤100000):Calls Tryz.prog 78 #[lvA v] w fun e w'=>e=.returned (.int .i64 (blC v.l))∧Below w.heap.size w w':=by
 have hbx:=Lx.new hr;have hn:=hr.n2.1;unfold maxLen at hn;unfold lvA;go_enter Tryz.func78,Tryz.ntmps78
 go_wp2_with fail;go_loopw [11] (fun n wr=>∃ k:Nat,k≤v.l.bls.length∧n=.int .i64 k∧Lx w wr v∧Hid ((v.l.bls.take k).all (y6s v.l)=true)) (fun n _=>v.l.bls.length - (intOf n).toNat)
 case atStart=>exact ⟨0,nZ,rfl,hbx,hE (by simp)⟩
 case round=>
  obtain ⟨k,hk,rfl,hb,HK⟩:=hrel;clear hbx;by_cases hlt:k < v.l.bls.length
  ·have hki:(k:Int) < (v.l.bls.length:Int):=by omega
   obtain ⟨b,off,hA,lb,ho,y0,y1,y2⟩:=hb.rd.r5.elB hlt;have hba:=hb.alloc (.cells #[.int .i64 v.l.bls[k].id,.int .i64 v.l.bls[k].el,.int .i64 v.l.bls[k].off] 184);have x2:=hba.x2;have hbb:=hba.bel;have HNO:=hE fun h:y6s v.l v.l.bls[k]=false=>j5c (z8n (p:=y6s v.l) hlt h)
   have HYE:=hE fun h:y6s v.l v.l.bls[k]=true=>z4i (p:=y6s v.l) hlt HK.out h
   rw[hA];have hwl:IntKind.i64.wrap ((v.l.els.length:Int) - 1)=(v.l.els.length:Int) - 1:=IntWalk.i64_in _ (by omega)
   cases c1:inB v.l.bls[k].id 1 1073741824 with
   | false=>
    have HX:=hE (HNO.out (x6j c1));clear hA ho HK HNO HYE;generalize v.l.bls[k]=q at *;go_wp2_with fail
    (refine wp_region_quiet_lit (by kernel_rfl) (by kernel_rfl) ?_;(repeat (any_goals (first | go_big_quiet_step ((first | (go_at_call 114;exact Calls.quiet_of_same (z3q _ _ _ _)))) | quiet_step ((first | (go_at_call 114;exact Calls.quiet_of_same (z3q _ _ _ _)))) | (refine wpQuiet_step (fun K hK=>?_);go_simp;split <;> (refine hK _ ?_;clear hK K)))));all_goals (refine wpQuiet_nil ?_;intro _ hw';obtain ⟨nq,hw''⟩:=hw';subst hw''))
    all_goals (go_wp2_with fail)
    all_goals (go_ret;exact ⟨z0i HX.out.symm,blz⟩)
   | true=>
    cases c2:inB v.l.bls[k].el 0 ((v.l.els.length:Int) - 1) with
    | false=>
     have HX:=hE (HNO.out (x6k c2));clear hA ho HK HNO HYE;generalize v.l.bls[k]=q at *;go_wp2_with fail
     (refine wp_region_quiet_lit (by kernel_rfl) (by kernel_rfl) ?_;(repeat (any_goals (first | go_big_quiet_step ((first | (go_at_call 114;exact Calls.quiet_of_same (z3q _ _ _ _)))) | quiet_step ((first | (go_at_call 114;exact Calls.quiet_of_same (z3q _ _ _ _)))) | (refine wpQuiet_step (fun K hK=>?_);go_simp;split <;> (refine hK _ ?_;clear hK K)))));all_goals (refine wpQuiet_nil ?_;intro _ hw';obtain ⟨nq,hw''⟩:=hw';subst hw''))
     all_goals (go_wp2_with fail)
     all_goals (go_ret;exact ⟨z0i HX.out.symm,blz⟩)
    | true=>
     have hr2:=z1f.1 c2;obtain ⟨k2,hk2⟩:=Int.eq_ofNat_of_zero_le hr2.1;have hlt2:k2 < v.l.els.length:=by omega
     have hki2:(k2:Int) < (v.l.els.length:Int):=by omega
     have HIN:=hE (j0t c1 hk2 hlt2);obtain ⟨b2,off2,hA2,lb2,ho2,z0,z1,z2,z3,z4,z5,z6⟩:=hba.rd.r2.elE hlt2;clear z0 z1 z3 z4 z5 z6 ho2 HK
     cases c3:inB v.l.bls[k].off 0 v.l.els[k2].len with
     | false=>
      have HX:=hE (HNO.out (by rw[HIN.out,c3]));clear hA ho HNO HYE HIN hr2;generalize v.l.bls[k]=q at *;generalize v.l.els[k2]=p at *;obtain ⟨q1,q2,q3⟩:=q;simp only at hk2;subst hk2;unfold z1c at ⊢;rw[hA2] at x2 ⊢;clear hA2;go_wp2_with fail
      (refine wp_region_quiet_lit (by kernel_rfl) (by kernel_rfl) ?_;(repeat (any_goals (first | go_big_quiet_step ((first | (go_at_call 114;exact Calls.quiet_of_same (z3q _ _ _ _)))) | quiet_step ((first | (go_at_call 114;exact Calls.quiet_of_same (z3q _ _ _ _)))) | (refine wpQuiet_step (fun K hK=>?_);go_simp;split <;> (refine hK _ ?_;clear hK K)))));all_goals (refine wpQuiet_nil ?_;intro _ hw';obtain ⟨nq,hw''⟩:=hw';subst hw''))
      all_goals (go_wp2_with fail)
      all_goals (go_ret;exact ⟨z0i HX.out.symm,blz⟩)
     | true=>
      have HX:=hE (HYE.out (by rw[HIN.out,c3]));clear hA ho HNO HYE HIN hr2;generalize v.l.bls[k]=q at *;generalize v.l.els[k2]=p at *;obtain ⟨q1,q2,q3⟩:=q;simp only at hk2;subst hk2;unfold z1c at ⊢;rw[hA2] at x2 ⊢;clear hA2;go_wp2_with fail
      (refine wp_region_quiet_lit (by kernel_rfl) (by kernel_rfl) ?_;(repeat (any_goals (first | go_big_quiet_step ((first | (go_at_call 114;exact Calls.quiet_of_same (z3q _ _ _ _)))) | quiet_step ((first | (go_at_call 114;exact Calls.quiet_of_same (z3q _ _ _ _)))) | (refine wpQuiet_step (fun K hK=>?_);go_simp;split <;> (refine hK _ ?_;clear hK K)))));all_goals (refine wpQuiet_nil ?_;intro _ hw';obtain ⟨nq,hw''⟩:=hw';subst hw''))
      all_goals (go_wp2_with fail)
      all_goals go_roundw
      case rel=>exact ⟨k+1,by omega,by go_num,hba.now (Below.drewN bQ _),HX⟩
      case measure=>simp[intOf];omega
  ·have HAL:=hE (z5l hlt HK.out);have hmm:=@run_makeMap Tryz.prog;have x5:=hb.x5;have hltb:=hb.lt;have hbm:=hb.alloc (.map #[] 0);have x5':=hbm.x5;have hset:=z8w.made wr Tryz.prog 3 4 wr.heap.size rfl;have HDU:=hE fun h:¬(v.l.bls.map Bls.id).Nodup=>j0r HAL.out h
   have HDO:=hE fun h:(v.l.bls.map Bls.id).Nodup=>j0s HAL.out h
   clear HK hb;go_wp2_with fail
   clear hmm x5 x5';obtain ⟨B,hB⟩:∃ B,B=wr.heap.size:=⟨_,rfl⟩
   rw[←hB] at hset hltb ⊢;clear hB;go_loopw [47] (fun n wr=>∃ k:Nat,k≤v.l.bls.length∧n=.int .i64 k∧Lx w wr v∧z8w Tryz.prog 3 4 wr B k (((v.l.bls.map Bls.id).take k).map (Lit.int .i64))∧Hid (((v.l.bls.map Bls.id).take k).Nodup)) (fun n _=>v.l.bls.length - (intOf n).toNat)
   case atStart=>exact ⟨0,nZ,rfl,hbm,hset,hE (by simp)⟩
   case round=>
    obtain ⟨k,hk,rfl,hb,hst,HB⟩:=hrel;clear hbm hset;by_cases hlt:k < v.l.bls.length
    ·have hki:(k:Int) < (v.l.bls.length:Int):=by omega
     obtain ⟨b,off,hA,lb,ho,y0,y1,y2⟩:=hb.rd.r5.elB hlt;have hba:=hb.alloc (.cells #[.int .i64 v.l.bls[k].id,.int .i64 v.l.bls[k].el,.int .i64 v.l.bls[k].off] 184);have hsta:=hst.alloc (.cells #[.int .i64 v.l.bls[k].id,.int .i64 v.l.bls[k].el,.int .i64 v.l.bls[k].off] 184);have hlm:k < (v.l.bls.map Bls.id).length:=by simpa using hlt
     have hmk:(v.l.bls.map Bls.id)[k]=v.l.bls[k].id:=by simp
     have hkey:=hE (x3q v.l.bls[k].id ho.1);have hany:=any_int ((v.l.bls.map Bls.id).take k) v.l.bls[k].id;rw[hA]
     cases hd:decide (v.l.bls[k].id∈(v.l.bls.map Bls.id).take k) with
     | true=>
      have HX:=hE (HDU.out (z5u hlm (by rw[hmk];exact oDt hd)));have HAN:=hE (hany.trans hd);clear hd hany hA ho hmk HB HDU HDO;generalize v.l.bls[k]=q at *;generalize ((v.l.bls.map Bls.id).take k).map (Lit.int .i64)=ks at *;go_wp2_with (at_lookup;go_loud (refine z0u _ rfl _ _ 165 rfl 3 4 y2h Tryz.underlying165 Tryz.underlying4 (z4o _) B k ks rfl hsta _ _ rfl hkey.out true HAN.out ?_))
      go_ret
      exact ⟨z0i HX.out.symm,hba.bel⟩
     | false=>
      have HT:=hE (z3z hlm HB.out (by rw[hmk];exact of_decide_eq_false hd));have HAN:=hE (hany.trans hd);have HKS:Hid (((v.l.bls.map Bls.id).take (k+1)).map (Lit.int .i64)=((v.l.bls.map Bls.id).take k).map (Lit.int .i64)++[.int .i64 v.l.bls[k].id]):=hE (by rw[tqS hlm,List.map_append,hmk];rfl);clear hd hany hA ho hmk HB;generalize v.l.bls[k]=q at *;generalize ((v.l.bls.map Bls.id).take k).map (Lit.int .i64)=ks at *;go_wp2_with (first | (at_lookup;go_loud (refine z0u _ rfl _ _ 165 rfl 3 4 y2h Tryz.underlying165 Tryz.underlying4 (z4o _) B k ks rfl hsta _ _ rfl hkey.out false HAN.out ?_)) | (at_mapUpdate;go_loud (refine z3g _ rfl _ _ _ 165 rfl 3 4 y2h Tryz.underlying165 Tryz.underlying4 B k ks rfl hsta (by unfold maxLen;omega) _ _ rfl rfl hkey.out ?_);intro w6 hst6 hgr6))
      go_roundw
      case rel=>exact ⟨k+1,by omega,by go_num,hba.grown hr hgr6 (by omega),by rw[HKS.out];exact hst6,HT⟩
      case measure=>simp[intOf];omega
    ·have HX:=hE (HDO.out (by
      have h:=HB.out
      rwa [tlL (by simp;omega)] at h))
     go_wp2_with fail;go_ret
     exact ⟨z0i HX.out.symm,hb.bel⟩
theorem z5c:∀ {js:List Jnt} {e:z0o},(z03 js e).isSome=decide (e∈z3r js)
 | [],e=>by simp[z03,z3r]
 | j::r,e=>by
  have ih:=z5c (js:=r) (e:=e);have he:z3r (j::r)=j.a::j.b::z3r r:=by simp[z3r]
  unfold z03;rw[he];by_cases h1:j.a=e
  ·simp[h1]
  ·by_cases h2:j.b=e
   ·simp[h1,h2]
   ·rw[if_neg h1,if_neg h2,ih];have h1':¬e=j.a:=fun h=>h1 h.symm
    have h2':¬e=j.b:=fun h=>h2 h.symm
    simp[h1',h2']
theorem z8s:∀ (js:List Jnt) (j:Jnt) (e:z0o),z03 (js++[j]) e=(z03 js e).or (if j.a=e then some j.b else if j.b=e then some j.a else none)
 | [],j,e=>by simp[z03]
 | x::r,j,e=>by
  rw[List.cons_append,z03,z03,z8s r j e];split
  ·simp
  ·split
   ·simp
   ·rfl
theorem x0k (js:List Jnt) (j:Jnt):z3r (js++[j])=z3r js++[j.a,j.b]:=by simp[z3r]
theorem j7n {js:List Jnt} {j:Jnt} (ha:(z03 js j.a).isSome=false) (hb:(z03 js j.b).isSome=false) (hne:j.a≠j.b) (e:z0o):upE (upE (z03 js) j.a j.b) j.b j.a e=z03 (js++[j]) e:=by
 rw[z8s];unfold upE;by_cases h2:e=j.b
 ·subst h2;have:z03 js j.b=none:=by simpa using hb
  rw[if_pos rfl,this,if_neg hne];simp
 ·rw[if_neg h2];by_cases h1:e=j.a
  ·subst h1;have:z03 js j.a=none:=by simpa using ha
   rw[if_pos rfl,this];simp
  ·rw[if_neg h1,if_neg (fun h=>h1 h.symm),if_neg (fun h=>h2 h.symm)];simp
theorem j9f {js:List Jnt} {j:Jnt} (ha:(z03 js j.a).isSome=false) (hb:(z03 js j.b).isSome=false) (hne:j.a≠j.b) (e:z0o):upE (upE (z03 js) j.b j.a) j.a j.b e=z03 (js++[j]) e:=by
 rw[←j7n ha hb hne];unfold upE;by_cases h1:e=j.a
 ·subst h1;simp[hne]
 ·simp[h1]
theorem y54 {l:List Jnt} {k:Nat} (h:k < l.length):z3r (l.take (k+1))=z3r (l.take k)++[l[k].a,l[k].b]:=by
 rw[tqS h,x0k]
theorem x0l {l:List Jnt} {k:Nat} (h:k < l.length) (hn:(z3r (l.take k)).Nodup) (ha:(z03 (l.take k) l[k].a).isSome=false) (hb:(z03 (l.take k) l[k].b).isSome=false) (hne:l[k].a≠l[k].b):(z3r (l.take (k+1))).Nodup:=by
 rw[z5c,decide_eq_false_iff_not] at ha hb;rw[y54 h,List.nodup_append];refine ⟨hn,by simp[hne],fun x hx y hy=>?_⟩;simp only[List.mem_cons,List.not_mem_nil,or_false] at hy;rcases hy with rfl | rfl
 ·exact fun e=>ha (e▸hx)
 ·exact fun e=>hb (e▸hx)
theorem x7g {l:List Jnt} (k:Nat):(z3r (l.take k)).Sublist (z3r l):=by
 conv=>rhs;rw[←List.take_append_drop k l]
 unfold z3r;rw[List.flatMap_append];exact List.sublist_append_left _ _
theorem y8i {l:List Jnt} {k:Nat} (h:k < l.length) (hd:(z03 (l.take k) l[k].a).isSome=true∨(z03 (l.take k) l[k].b).isSome=true):¬(z3r l).Nodup:=by
 intro hn;have h2:=List.Pairwise.sublist (x7g (l:=l) (k+1)) hn;rw[y54 h] at h2;have h3:=(List.pairwise_append.1 h2).2.2;rw[z5c,z5c,dET,dET] at hd;rcases hd with hd | hd
 ·exact h3 _ hd l[k].a (by simp) rfl
 ·exact h3 _ hd l[k].b (by simp) rfl
theorem j6b {l:Lay} (h:l.jts.all (y2i l)=false):jnC l=1:=by unfold jnC;rw[if_pos h]
theorem j1y {l:Lay} (h:l.jts.all (y2i l)=true) (hd:¬(z3r l.jts).Nodup):jnC l=8:=by unfold jnC;rw[if_neg (by rw[h];simp),if_pos (dFf hd)]
theorem j1z {l:Lay} (h:l.jts.all (y2i l)=true) (hd:(z3r l.jts).Nodup):jnC l=0:=by unfold jnC;rw[if_neg (by rw[h];simp),if_neg (by simp[hd])]
theorem x7v {l:Lay} {j:Jnt} (h:exB l j.a=false):y2i l j=false:=by unfold y2i;rw[h];rfl
theorem x7w {l:Lay} {j:Jnt} (h:exB l j.b=false):y2i l j=false:=by unfold y2i;rw[h];simp
theorem x7x {l:Lay} {j:Jnt} (h:decide (j.a=j.b)=true):y2i l j=false:=by unfold y2i;simp at h;simp[h]
theorem x7y {l:Lay} {j:Jnt} (h1:exB l j.a=true) (h2:exB l j.b=true) (h:decide (j.a=j.b)=false):y2i l j=true:=by unfold y2i;simp at h;simp[h,h1,h2]
theorem z2f.put {w:World} {b n:Nat} {f:z0o→Option z0o} (h:z2f w b n f) (hn:n < maxLen) (e g:z0o) (he:x65 e):∃ w',(Instr.mapUpdate 133 (.map (some b)) (.agg #[.int .i64 e.el,.int .i64 e.sd]) (.agg #[.int .i64 g.el,.int .i64 g.sd])).run Tryz.prog w=.ok () w'∧z2f w' b (n+1) (upE f e g)∧w.grownBy w' (some b):=by
 obtain ⟨D,h1,h2,h3⟩:=h;obtain ⟨w',h4,h5,h6⟩:=h1.update y53 Tryz.underlying133 hn (z8c e he) (x3a g);refine ⟨w',h4,⟨_,h5,h2.put _ _,fun e' he'=>?_⟩,h6⟩;unfold upE;by_cases h:e' = e
 ·subst h;rw[if_pos rfl];refine ⟨Maps.has_put_same h2 (y53.key (z8c e' he)) _,fun g' hg' z=>?_⟩;simp only[qE] at hg';subst hg';exact Maps.atKey_put_same h2 (y53.key (z8c e' he)) _ _
 ·rw[if_neg h];have hne:x7c e'≠x7c e:=fun hk=>h (x7d he' he hk)
  obtain ⟨h7,h8⟩:=h3 e' he';exact ⟨(Maps.has_put_other hne _).trans h7,fun g' hg' z=>(Maps.atKey_put_other hne _ _).trans (h8 g' hg' z)⟩
theorem z0n (w:World) {ops:Array Oper} {rest:List Oper} {o:Oper} {a:Act} {Q:Exit→Act→World→Prop} (hg:o.guard=none) (m x:Operand) (t:TypeId) (hop:o.op=Op.lookup t m x true) (ht:Tryz.prog.underlying t=some (.map 90 90))
  (b n:Nat) (f:z0o→Option z0o) (hm:a.eval m=.map (some b)) (hown:z2f w b n f) (e:z0o) (he:x65 e) (hx:a.eval x=.agg #[.int .i64 e.el,.int .i64 e.sd]) (g:z0o) (hgg:(f e).getD ⟨0,0⟩=g) (c:Bool) (hc:(f e).isSome=c)
  (hK:wpList Tryz.prog ops Q rest (a.put o.dst (.tuple #[.agg #[.int .i64 g.el,.int .i64 g.sd],.bool c])) w):wpList Tryz.prog ops Q (o::rest) a w:=by
 subst hgg;subst hc;exact z99 w hg m x t hop ht b n f hm hown e he hx hK
theorem z2f.kept {w:World} {b n:Nat} {f:z0o→Option z0o} (h:z2f w b n f) {n':Nat} (hn:n≤n'):z2f w b n' f:=by
 obtain ⟨D,h1,h2⟩:=h;exact ⟨D,h1.mono hn,h2⟩
def y33 (w:World) (l:Lay) (e:Ending) (w':World):Prop:=(jnC l≠0∧e=.returned (.tuple #[.map none,.int .i64 (jnC l)])∧Below w.heap.size w w')∨(jnC l=0∧∃ B n,e=.returned (.tuple #[.map (some B),.int .i64 0])∧z2f w' B n (z03 l.jts)∧Below w.heap.size w w')
theorem y2v {a:Value} {x y:Int} (h:x=y):Ending.returned (.tuple #[a,.int .i64 x])=.returned (.tuple #[a,.int .i64 y]):=by rw[h]
theorem j7d {l:Lay} (h:l.sgs.all (y69 l)=false):sgC l=1:=by unfold sgC;rw[if_pos h]
theorem j3s {l:Lay} (h:l.sgs.all (y69 l)=true) (hd:¬(l.sgs.map Sgn.pos).Nodup):sgC l=8:=by unfold sgC;rw[if_neg (by rw[h];simp),if_pos (dFf hd)]
theorem j7f {l:Lay} (h:l.sgs.all (y69 l)=true) (hd:(l.sgs.map Sgn.pos).Nodup) (hs:(l.sgs.all fun s=>z94 l s.pos)=false):sgC l=14:=by unfold sgC;rw[if_neg (by rw[h];simp),if_neg (by simp[hd]),if_pos hs]
theorem j3t {l:Lay} (h:l.sgs.all (y69 l)=true) (hd:(l.sgs.map Sgn.pos).Nodup) (hs:(l.sgs.all fun s=>z94 l s.pos)=true):sgC l=0:=by unfold sgC;rw[if_neg (by rw[h];simp),if_neg (by simp[hd]),if_neg (by rw[hs];simp)]
theorem j1t {α:Type} [DecidableEq α] {l:List α} {w:α} {k:Nat} (h:w∈l.take k):z5k l w < k:=by
 obtain ⟨i,hi,he⟩:=List.mem_iff_getElem.1 h;rw[lTk] at hi;rw[List.getElem_take] at he;have key:∀ (l:List α) (i:Nat),l[i]? = some w→z5k l w≤i:=by
  intro l
  induction l with
  | nil=>intro i h;simp at h
  | cons x r ih=>
   intro i h;unfold z5k;split
   ·omega
   ·rename_i hx
    cases i with
    | zero=>simp at h;exact absurd h hx
    | succ i=>
     have:=ih i (by simpa using h);split <;> omega
 have:=key l i (by rw[gqE (by omega),he]);omega
theorem x9l {l:Lay} {s:Sgn} (h:exB l s.pos=false):y69 l s=false:=by unfold y69;rw[h];rfl
theorem j3u {l:Lay} {s:Sgn} (h:exB l s.pos=true):y69 l s=inB s.ovl 0 1000000:=by unfold y69;rw[h];rfl
theorem x5h {l:Lay} {p:z0o} (h:z03 l.jts p=none):z94 l p=false:=by unfold z94;rw[h]
theorem safe_some {l:Lay} {p f:z0o} (h:z03 l.jts p=some f):z94 l p=decide (z0d l f.el≠z0d l p.el):=by unfold z94;rw[h]
def SS (w0:World) (v:LV) (a4:Option Addr) (gs ge:Nat) (s:Sgn) (e:z0o) (W:World):Prop:=
 W.cell? ⟨w0.heap.size,0,none⟩=some (.string (bs v.l.name))∧W.cell? ⟨w0.heap.size,1,none⟩=some (.slice v.A1 v.l.secs.length v.c1)∧W.cell? ⟨w0.heap.size,2,none⟩=some (.slice v.A2 v.l.els.length v.c2)∧W.cell? ⟨w0.heap.size,3,none⟩=some (.slice v.A3 v.l.jts.length v.c3)∧W.cell? ⟨w0.heap.size,4,none⟩=some (.slice a4 v.l.sgs.length v.c4)∧W.cell? ⟨w0.heap.size,5,none⟩=some (.slice v.A5 v.l.bls.length v.c5)∧W.cell? ⟨gs,1,none⟩=some (.int .i64 s.pos.el)∧W.cell? ⟨ge,0,none⟩=some (.int .i64 e.el)∧(Lx w0 W v∧v.A4=a4∧Blk W gs 105 #[.string (bs s.name),.int .i64 s.pos.el,.int .i64 s.pos.sd,.int .i64 s.ovl]∧Blk W ge 90 #[.int .i64 e.el,.int .i64 e.sd])
section
variable {w0 W W':World} {v:LV} {a4:Option Addr} {gs ge:Nat} {s:Sgn} {e:z0o}
theorem SS.mk (h:Lx w0 W v) (ha:v.A4=a4) (h1:Blk W gs 105 #[.string (bs s.name),.int .i64 s.pos.el,.int .i64 s.pos.sd,.int .i64 s.ovl]) (h2:Blk W ge 90 #[.int .i64 e.el,.int .i64 e.sd]):SS w0 v a4 gs ge s e W:=
 ⟨h.x0,h.x1,h.x2,h.x3,ha▸h.x4,h.x5,h1.cell 1,h2.cell 0,h,ha,h1,h2⟩
theorem SS.all (h:SS w0 v a4 gs ge s e W):Lx w0 W v∧v.A4=a4∧Blk W gs 105 #[.string (bs s.name),.int .i64 s.pos.el,.int .i64 s.pos.sd,.int .i64 s.ovl]∧Blk W ge 90 #[.int .i64 e.el,.int .i64 e.sd]:=h.2.2.2.2.2.2.2.2
theorem SS.now (h:SS w0 v a4 gs ge s e W) (hb:Below W.heap.size W W'):SS w0 v a4 gs ge s e W':=
 SS.mk (h.all.1.now hb) h.all.2.1 (h.all.2.2.1.now hb) (h.all.2.2.2.now hb)
theorem x5l (h:SS w0 v a4 gs ge s e W):SS w0 v a4 gs ge s e W.drew:=h.now bQ.drew
end
theorem z8y (v:LV) (w:World) (E:y6n w) (hr:LvR w v) (hm4:v.l.sgs.length≤100000) (B n0:Nat) (he:z2f w B n0 (z03 v.l.jts)):Calls Tryz.prog 77 #[lvA v,.map (some B)] w fun e w'=>e=.returned (.int .i64 (sgC v.l))∧Below w.heap.size w w':=by
 have hbx:=Lx.new hr;have hsa:∀ s∈v.l.sgs,j9a s:=fun s hs=>by
  obtain ⟨i,hi⟩:=List.getElem?_of_mem hs;obtain ⟨hil,rfl⟩:=List.getElem?_eq_some_iff.1 hi;obtain ⟨_,_,_,_,ho,_⟩:=hr.r4.x36 hil;exact ho
 have HSA:=hE hsa;clear hsa;unfold lvA;go_enter Tryz.func77,Tryz.ntmps77
 go_wp2_with fail;go_loopw [16] (fun n wr=>∃ k:Nat,k≤v.l.sgs.length∧n=.int .i64 k∧Lx w wr v∧Hid ((v.l.sgs.take k).all (y69 v.l)=true)) (fun n _=>v.l.sgs.length - (intOf n).toNat)
 case atStart=>exact ⟨0,nZ,rfl,hbx,hE (by simp)⟩
 case round=>
  obtain ⟨k,hk,rfl,hb,HK⟩:=hrel;clear hbx;by_cases hlt:k < v.l.sgs.length
  ·have hki:(k:Int) < (v.l.sgs.length:Int):=by omega
   obtain ⟨b,off,hA,lb,ho,y0,y1,y2,y3⟩:=hb.rd.r4.x36 hlt;have hba:=hb.alloc (.cells #[.string (bs v.l.sgs[k].name),.int .i64 v.l.sgs[k].pos.el,.int .i64 v.l.sgs[k].pos.sd,.int .i64 v.l.sgs[k].ovl] 105);have hsb:Blk (wr.alloc (.cells #[.string (bs v.l.sgs[k].name),.int .i64 v.l.sgs[k].pos.el,.int .i64 v.l.sgs[k].pos.sd,.int .i64 v.l.sgs[k].ovl] 105)) wr.heap.size 105 #[.string (bs v.l.sgs[k].name),.int .i64 v.l.sgs[k].pos.el,.int .i64 v.l.sgs[k].pos.sd,.int .i64 v.l.sgs[k].ovl]:=Blk.new _ _ _ _ rfl;have x0:=hba.x0;have x1:=hba.x1;have x2:=hba.x2;have x3:=hba.x3;have x4:=hba.x4;have x5:=hba.x5;have HNO:=hE fun h:y69 v.l v.l.sgs[k]=false=>j7d (z8n (p:=y69 v.l) hlt h)
   have HYE:=hE fun h:y69 v.l v.l.sgs[k]=true=>z4i (p:=y69 v.l) hlt HK.out h
   have E1:=E.now hba.bel;have HE:=hE fun W E h=>y2d v v.l.sgs[k].pos W E h
   unfold lvA at HE;(try unfold z1c at x4);(try unfold z1c at HE);(try unfold z1c at ⊢);rw[hA] at x4 HE ⊢
   cases ca:exB v.l v.l.sgs[k].pos with
   | false=>
    have HX:=hE (HNO.out (x9l ca));rw[ca] at HE;clear hA ho HK HNO HYE ca;generalize v.l.sgs[k]=q at *;go_wp2_with fail
    refine (HE.out _ E1 hba.rd).mono ?_;rintro e w5 ⟨rfl,hb5⟩;have hB5:=(hba.now hb5).bel;clear x0 x1 x2 x3 x4 x5 hba hsb;go_wp2_with fail
    go_ret
    exact ⟨z0i HX.out.symm,hB5⟩
   | true=>
    have HEQ:=hE (j3u ca);rw[ca] at HE
    cases cb:inB v.l.sgs[k].ovl 0 1000000 with
    | false=>
     have HX:=hE (HNO.out (by rw[HEQ.out,cb]));have HW:=hE fun W=>x60 cb W
     clear hA ho HK HNO HYE HEQ ca cb;generalize v.l.sgs[k]=q at *;go_wp2_with fail
     refine (HE.out _ E1 hba.rd).mono ?_;rintro e w5 ⟨rfl,hb5⟩;have hB5:=(hba.now hb5).bel;have hs5:=hsb.now hb5;have z3:w5.cell? ⟨wr.heap.size,3,none⟩=some (.int .i64 q.ovl):=hs5.cell 3;clear x0 x1 x2 x3 x4 x5 hba hsb;go_wp2_with fail
     refine (HW.out _).mono ?_;rintro e w6 ⟨rfl,rfl⟩;go_wp2_with fail
     go_ret
     exact ⟨z0i HX.out.symm,hB5⟩
    | true=>
     have HX:=hE (HYE.out (by rw[HEQ.out,cb]));have HW:=hE fun W=>x60 cb W
     clear hA ho HK HNO HYE HEQ ca cb;generalize v.l.sgs[k]=q at *;go_wp2_with fail
     refine (HE.out _ E1 hba.rd).mono ?_;rintro e w5 ⟨rfl,hb5⟩;have hb5x:=hba.now hb5;have hs5:=hsb.now hb5;have z3:w5.cell? ⟨wr.heap.size,3,none⟩=some (.int .i64 q.ovl):=hs5.cell 3;clear x0 x1 x2 x3 x4 x5 hba hsb;go_wp2_with fail
     refine (HW.out _).mono ?_;rintro e w6 ⟨rfl,rfl⟩;go_wp2_with fail
     go_roundw
     case rel=>exact ⟨k+1,by omega,by go_num,hb5x,HX⟩
     case measure=>simp[intOf];omega
  ·have HAL:=hE (z5l hlt HK.out);have x4:=hb.x4;clear HK;go_wp2_with fail
   clear x4;go_loopw [35] (fun n wr=>∃ k:Nat,k≤v.l.sgs.length∧n=.int .i64 k∧Lx w wr v∧Hid (((v.l.sgs.map Sgn.pos).take k).Nodup)) (fun n _=>v.l.sgs.length - (intOf n).toNat)
   case atStart=>exact ⟨0,nZ,rfl,hb,hE (by simp)⟩
   case round=>
    obtain ⟨k,hk,rfl,hb,HK⟩:=hrel;by_cases hlt:k < v.l.sgs.length
    ·have hki:(k:Int) < (v.l.sgs.length:Int):=by omega
     obtain ⟨b,off,hA,lb,ho,y0,y1,y2,y3⟩:=hb.rd.r4.x36 hlt;have hlm:k < (v.l.sgs.map Sgn.pos).length:=by simpa using hlt
     have hmk:(v.l.sgs.map Sgn.pos)[k]=v.l.sgs[k].pos:=by simp
     have hba:=hb.alloc (.cells #[.string (bs v.l.sgs[k].name),.int .i64 v.l.sgs[k].pos.el,.int .i64 v.l.sgs[k].pos.sd,.int .i64 v.l.sgs[k].ovl] 105);have x0:=hba.x0;have x1:=hba.x1;have x2:=hba.x2;have x3:=hba.x3;have x4:=hba.x4;have x5:=hba.x5;have HG:=hE fun W h=>z6k v v.l.sgs[k].pos W h
     unfold lvA at HG;(try unfold z1c at x4);(try unfold z1c at HG);(try unfold z1c at ⊢);rw[hA] at x4 HG ⊢
     cases cd:decide (v.l.sgs[k].pos∈(v.l.sgs.map Sgn.pos).take k) with
     | true=>
      have hm:=oDt cd;have HX:=hE (j3s HAL.out (z5u hlm (by rw[hmk];exact hm)));have hne:=j1t hm;have hnb:(z5k (v.l.sgs.map Sgn.pos) v.l.sgs[k].pos != (k:Int))=true:=by rw[bne_iff_ne];omega
      clear hA ho hmk HK cd hm hne;generalize v.l.sgs[k]=q at *;generalize z5k (v.l.sgs.map Sgn.pos) q.pos=ix at *;go_wp2_with fail
      refine (HG.out _ hba.rd).mono ?_;rintro e w5 ⟨rfl,hb5⟩;have hB5:=(hba.now hb5).bel;clear x0 x1 x2 x3 x4 x5 hba;go_wp2_with fail
      go_ret
      exact ⟨z0i HX.out.symm,hB5⟩
     | false=>
      have hm:=of_decide_eq_false cd;have HX:=hE (z3z hlm HK.out (by rw[hmk];exact hm));have hix:=y78 (l:=v.l.sgs.map Sgn.pos) (w:=v.l.sgs[k].pos) (k:=k) (by rw[gqE hlm,hmk]) hm;rw[hix] at HG;clear hA ho hmk HK cd hm hix;generalize v.l.sgs[k]=q at *;go_wp2_with fail
      refine (HG.out _ hba.rd).mono ?_;rintro e w5 ⟨rfl,hb5⟩;have hb5x:=hba.now hb5;clear x0 x1 x2 x3 x4 x5 hba;go_wp2_with fail
      go_roundw
      case rel=>exact ⟨k+1,by omega,by go_num,hb5x,HX⟩
      case measure=>simp[intOf];omega
    ·have hnd:=HK.out;rw[tlL (by simp;omega)] at hnd;have HND:=hE hnd;have x4:=hb.x4;clear hnd HK;go_wp2_with fail
     clear x4;go_loopw [50] (fun n wr=>∃ k:Nat,k≤v.l.sgs.length∧n=.int .i64 k∧Lx w wr v∧z2f wr B n0 (z03 v.l.jts)∧Hid (((v.l.sgs.take k).all fun s=>z94 v.l s.pos)=true)) (fun n _=>v.l.sgs.length - (intOf n).toNat)
     case atStart=>exact ⟨0,nZ,rfl,hb,he.now hb.bel,hE (by simp)⟩
     case round=>
      obtain ⟨k,hk,rfl,hb,hst,HK⟩:=hrel;by_cases hlt:k < v.l.sgs.length
      ·have hki:(k:Int) < (v.l.sgs.length:Int):=by omega
       obtain ⟨b,off,hA,lb,ho,y0,y1,y2,y3⟩:=hb.rd.r4.x36 hlt;have hba:=hb.alloc (.cells #[.string (bs v.l.sgs[k].name),.int .i64 v.l.sgs[k].pos.el,.int .i64 v.l.sgs[k].pos.sd,.int .i64 v.l.sgs[k].ovl] 105);have hsb:Blk (wr.alloc (.cells #[.string (bs v.l.sgs[k].name),.int .i64 v.l.sgs[k].pos.el,.int .i64 v.l.sgs[k].pos.sd,.int .i64 v.l.sgs[k].ovl] 105)) wr.heap.size 105 #[.string (bs v.l.sgs[k].name),.int .i64 v.l.sgs[k].pos.el,.int .i64 v.l.sgs[k].pos.sd,.int .i64 v.l.sgs[k].ovl]:=Blk.new _ _ _ _ rfl;have hsta:=hst.alloc (.cells #[.string (bs v.l.sgs[k].name),.int .i64 v.l.sgs[k].pos.el,.int .i64 v.l.sgs[k].pos.sd,.int .i64 v.l.sgs[k].ovl] 105);obtain ⟨g,hg⟩:∃ g,(z03 v.l.jts v.l.sgs[k].pos).getD ⟨0,0⟩=g:=⟨_,rfl⟩
       have HG:=hE hg;have hbb:=hba.alloc (.cells #[.int .i64 g.el,.int .i64 g.sd] 90);have hsbb:=hsb.alloc (.cells #[.int .i64 g.el,.int .i64 g.sd] 90);have hstb:=hsta.alloc (.cells #[.int .i64 g.el,.int .i64 g.sd] 90);have heb:Blk ((wr.alloc (.cells #[.string (bs v.l.sgs[k].name),.int .i64 v.l.sgs[k].pos.el,.int .i64 v.l.sgs[k].pos.sd,.int .i64 v.l.sgs[k].ovl] 105)).alloc (.cells #[.int .i64 g.el,.int .i64 g.sd] 90)) (wr.heap.size+1) 90 #[.int .i64 g.el,.int .i64 g.sd]:=Blk.new _ _ _ _ (by simp);have HNO:=hE fun h:z94 v.l v.l.sgs[k].pos=false=>j7f HAL.out HND.out (z8n (p:=fun s:Sgn=>z94 v.l s.pos) hlt h)
       have HYE:=hE fun h:z94 v.l v.l.sgs[k].pos=true=>z4i (p:=fun s:Sgn=>z94 v.l s.pos) hlt HK.out h
       have hop:=ho.2.1
       cases cj:z03 v.l.jts v.l.sgs[k].pos with
       | none=>
        have HX:=hE (HNO.out (x5h cj));have HCJ:Hid ((z03 v.l.jts v.l.sgs[k].pos).isSome=false):=hE (by rw[cj];rfl);rw[hA];clear hA ho HK HNO HYE cj hg;generalize v.l.sgs[k]=q at *;go_wp2_with (at_lookup;go_loud (refine z0n _ rfl _ _ 133 rfl Tryz.underlying133 B n0 (z03 v.l.jts) rfl hsta q.pos hop rfl g HG.out false HCJ.out ?_))
        (refine wp_region_quiet_lit (by kernel_rfl) (by kernel_rfl) ?_;(repeat (any_goals (first | go_big_quiet_step (fail) | quiet_step (fail) | (refine wpQuiet_step (fun K hK=>?_);go_simp;split <;> (refine hK _ ?_;clear hK K)))));all_goals (refine wpQuiet_nil ?_;intro _ hw';obtain ⟨nq,hw''⟩:=hw';subst hw''))
        all_goals (go_wp2_with fail)
        all_goals (go_ret;exact ⟨z0i HX.out.symm,Below.drewN hbb.bel _⟩)
       | some f=>
        have hgf:g=f:=by rw[←hg,cj];rfl
        have HSF:=hE (safe_some cj);have HCJ:Hid ((z03 v.l.jts v.l.sgs[k].pos).isSome=true):=hE (by rw[cj];rfl);subst hgf;clear cj hg;have HA4:=hE hA;have hss:=SS.mk hbb hA hsbb heb;rw[hA]
        cases cs:decide (z0d v.l g.el≠z0d v.l v.l.sgs[k].pos.el) with
        | false=>
         have HX:=hE (HNO.out (by rw[HSF.out,cs]));have heq:(z0d v.l g.el==z0d v.l v.l.sgs[k].pos.el)=true:=by simpa using cs
         clear hA ho HK HNO HYE HSF cs;generalize v.l.sgs[k]=q at *;go_wp2_with (at_lookup;go_loud (refine z0n _ rfl _ _ 133 rfl Tryz.underlying133 B n0 (z03 v.l.jts) rfl hsta q.pos hop rfl g HG.out true HCJ.out ?_))
         obtain ⟨W,hW⟩:∃ W,(wr.alloc (.cells #[.string (bs q.name),.int .i64 q.pos.el,.int .i64 q.pos.sd,.int .i64 q.ovl] 105)).alloc (.cells #[.int .i64 g.el,.int .i64 g.sd] 90)=W:=⟨_,rfl⟩
         rw[hW] at hss hbb ⊢;clear hW hba hsb hsta hsbb hstb heb y0 y1 y2 y3 hb;obtain ⟨gs,hgs⟩:∃ gs,gs=wr.heap.size:=⟨_,rfl⟩
         rw[←hgs] at hss ⊢;have HSEC:=hE fun (i:Int) (W:World) (h:SS w v (some ⟨b,off,none⟩) gs (gs+1) q g W)=>z3c v i W h.all.1.rd
         unfold lvA at HSEC;(try unfold z1c at HSEC);rw[HA4.out] at HSEC;clear hgs;go_region_held3 (fun w'=>w'.cell? ⟨w.heap.size,0,none⟩=some (.string (bs v.l.name))∧w'.cell? ⟨w.heap.size,1,none⟩=some (.slice v.A1 v.l.secs.length v.c1)∧w'.cell? ⟨w.heap.size,2,none⟩=some (.slice v.A2 v.l.els.length v.c2)∧w'.cell? ⟨w.heap.size,3,none⟩=some (.slice v.A3 v.l.jts.length v.c3)∧w'.cell? ⟨w.heap.size,4,none⟩=some (.slice (some ⟨b,off,none⟩) v.l.sgs.length v.c4)∧w'.cell? ⟨w.heap.size,5,none⟩=some (.slice v.A5 v.l.bls.length v.c5)∧w'.cell? ⟨gs,1,none⟩=some (.int .i64 q.pos.el)∧w'.cell? ⟨gs+1,0,none⟩=some (.int .i64 g.el)∧(Lx w w' v∧v.A4=some ⟨b,off,none⟩∧Blk w' gs 105 #[.string (bs q.name),.int .i64 q.pos.el,.int .i64 q.pos.sd,.int .i64 q.ovl]∧Blk w' (gs+1) 90 #[.int .i64 g.el,.int .i64 g.sd])) (first | assumption | exact x5l ‹_› | (refine SS.now ‹_› ?_;assumption)) (first | (go_at_call 18;refine (HSEC.out _ _ (by assumption)).mono ?_;rintro e wq ⟨rfl,hq⟩))
         all_goals (go_wp2_with fail)
         all_goals (go_ret;exact ⟨z0i HX.out.symm,(SS.all (by assumption:SS w v (some ⟨b,off,none⟩) gs (gs+1) q g _)).1.bel⟩)
        | true=>
         have HX:=hE (HYE.out (by rw[HSF.out,cs]));have heq:(z0d v.l g.el==z0d v.l v.l.sgs[k].pos.el)=false:=by simpa using cs
         clear hA ho HK HNO HYE HSF cs;generalize v.l.sgs[k]=q at *;go_wp2_with (at_lookup;go_loud (refine z0n _ rfl _ _ 133 rfl Tryz.underlying133 B n0 (z03 v.l.jts) rfl hsta q.pos hop rfl g HG.out true HCJ.out ?_))
         obtain ⟨W,hW⟩:∃ W,(wr.alloc (.cells #[.string (bs q.name),.int .i64 q.pos.el,.int .i64 q.pos.sd,.int .i64 q.ovl] 105)).alloc (.cells #[.int .i64 g.el,.int .i64 g.sd] 90)=W:=⟨_,rfl⟩
         rw[hW] at hss hbb ⊢;clear hW hba hsb hsta hsbb hstb heb y0 y1 y2 y3 hb;obtain ⟨gs,hgs⟩:∃ gs,gs=wr.heap.size:=⟨_,rfl⟩
         rw[←hgs] at hss ⊢;have HSEC:=hE fun (i:Int) (W:World) (h:SS w v (some ⟨b,off,none⟩) gs (gs+1) q g W)=>z3c v i W h.all.1.rd
         unfold lvA at HSEC;(try unfold z1c at HSEC);rw[HA4.out] at HSEC;clear hgs;go_region_held3 (fun w'=>w'.cell? ⟨w.heap.size,0,none⟩=some (.string (bs v.l.name))∧w'.cell? ⟨w.heap.size,1,none⟩=some (.slice v.A1 v.l.secs.length v.c1)∧w'.cell? ⟨w.heap.size,2,none⟩=some (.slice v.A2 v.l.els.length v.c2)∧w'.cell? ⟨w.heap.size,3,none⟩=some (.slice v.A3 v.l.jts.length v.c3)∧w'.cell? ⟨w.heap.size,4,none⟩=some (.slice (some ⟨b,off,none⟩) v.l.sgs.length v.c4)∧w'.cell? ⟨w.heap.size,5,none⟩=some (.slice v.A5 v.l.bls.length v.c5)∧w'.cell? ⟨gs,1,none⟩=some (.int .i64 q.pos.el)∧w'.cell? ⟨gs+1,0,none⟩=some (.int .i64 g.el)∧(Lx w w' v∧v.A4=some ⟨b,off,none⟩∧Blk w' gs 105 #[.string (bs q.name),.int .i64 q.pos.el,.int .i64 q.pos.sd,.int .i64 q.ovl]∧Blk w' (gs+1) 90 #[.int .i64 g.el,.int .i64 g.sd])) (first | assumption | exact x5l ‹_› | (refine SS.now ‹_› ?_;assumption)) (first | (go_at_call 18;refine (HSEC.out _ _ (by assumption)).mono ?_;rintro e wq ⟨rfl,hq⟩))
         all_goals (go_wp2_with fail)
         all_goals go_roundw
         case rel=>exact ⟨k+1,by omega,by go_num,(SS.all (by assumption:SS w v (some ⟨b,off,none⟩) gs (gs+1) q g _)).1,he.now (SS.all (by assumption:SS w v (some ⟨b,off,none⟩) gs (gs+1) q g _)).1.bel,HX⟩
         case measure=>simp[intOf];omega
      ·have HX:=hE (j3t HAL.out HND.out (z5l hlt HK.out));go_wp2_with fail
       go_ret;exact ⟨z0i HX.out.symm,hb.bel⟩
end Go.Proofs.YtpenlfedkacglaaGreatDoor
namespace Go.Proofs.YtpenlfedkacglaaGreatDoor
open Go.RowKit
attribute [local go_sem] z05 z07 z01 z02
attribute [-go_sem] run_equalIn_agg
theorem j0z {l:Lay} (h:y8g l=false):z8p l=2:=by unfold z8p;rw[if_pos h]
theorem j5k {l:Lay} {c:Int} (h:y8g l=true) (h1:nmC l=c) (h2:c≠0):z8p l=c:=by subst h1;unfold z8p;rw[if_neg (by simp[h]),if_pos h2]
theorem j07 {l:Lay} (h:y8g l=true) (h1:nmC l=0) (h2:elB l=false):z8p l=1:=by unfold z8p;rw[if_neg (by simp[h]),if_neg (by simp[h1]),if_pos h2]
theorem j5j {l:Lay} {c:Int} (h:y8g l=true) (h1:nmC l=0) (h2:elB l=true) (h3:jnC l=c) (h4:c≠0):z8p l=c:=by subst h3;unfold z8p;rw[if_neg (by simp[h]),if_neg (by simp[h1]),if_neg (by simp[h2]),if_pos h4]
theorem j5l {l:Lay} {c:Int} (h:y8g l=true) (h1:nmC l=0) (h2:elB l=true) (h3:jnC l=0) (h4:sgC l=c) (h5:c≠0):z8p l=c:=by subst h4;unfold z8p;rw[if_neg (by simp[h]),if_neg (by simp[h1]),if_neg (by simp[h2]),if_neg (by simp[h3]),if_pos h5]
theorem j5i {l:Lay} (h:y8g l=true) (h1:nmC l=0) (h2:elB l=true) (h3:jnC l=0) (h4:sgC l=0):z8p l=blC l:=by unfold z8p;rw[if_neg (by simp[h]),if_neg (by simp[h1]),if_neg (by simp[h2]),if_neg (by simp[h3]),if_neg (by simp[h4])]
theorem j8l {l:Lay} (h:y8g l=true):l.els.length≤32∧l.secs.length≤24∧l.sgs.length≤20∧l.bls.length≤24:=by
 unfold y8g at h;simp only[uT,z1f,dET] at h;omega
end Go.Proofs.YtpenlfedkacglaaGreatDoor
