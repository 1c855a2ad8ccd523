import Derived.Test.YtpenlfedkacglaaGreatDoorR04
set_option maxRecDepth 100000
set_option maxHeartbeats 40000000
set_option linter.all false
namespace Go.Proofs.YtpenlfedkacglaaGreatDoor
open Go.RowKit
attribute [local go_sem] z05 z09 z01 z02
attribute [-go_sem] run_equalIn_agg
def z6v (o:Option z0o):Value:=.tuple #[.agg #[.int .i64 (o.getD ⟨0,0⟩).el,.int .i64 (o.getD ⟨0,0⟩).sd],.bool o.isSome]
theorem y3n {o:Option z0o} {l:List Jnt} {x:z0o} {a b:Int} {c:Bool} (h:z03 l x=o) (ha:a=(o.getD ⟨0,0⟩).el) (hb:b=(o.getD ⟨0,0⟩).sd) (hc:c=o.isSome):Ending.returned (.tuple #[.agg #[.int .i64 a,.int .i64 b],.bool c])=.returned (z6v (z03 l x)):=by subst ha hb hc;rw[h];rfl
theorem j1u {l:List Jnt} {k:Nat} (h:k < l.length) (x:z0o):z03 (l.drop k) x=if l[k].a=x then some l[k].b else if l[k].b=x then some l[k].a else z03 (l.drop (k+1)) x:=by
 rw[List.drop_eq_getElem_cons h];rfl
theorem z6g (v:LV) (x:z0o) (w:World) (hr:LvR w v):Calls Tryz.prog 79 #[lvA v,.agg #[.int .i64 x.el,.int .i64 x.sd]] w fun e w'=>e=.returned (z6v (z03 v.l.jts x))∧Below w.heap.size w w':=by
 obtain ⟨W2,hW2⟩:∃ W,W=((w.alloc (.cells (z1b v) 28)).alloc (.cells #[.int .i64 x.el,.int .i64 x.sd] 90)).alloc (.cells #[.int .i64 0,.int .i64 0] 90):=⟨_,rfl⟩
 have hbx:Lx w W2 v:=by rw[hW2];exact ((Lx.new hr).alloc _).alloc _
 have hx1:Blk W2 (w.heap.size+1) 90 #[.int .i64 x.el,.int .i64 x.sd]:=by rw[hW2];exact (Blk.new _ _ _ _ (by simp)).alloc _
 have hz1:Blk W2 (w.heap.size+1+1) 90 #[.int .i64 0,.int .i64 0]:=by rw[hW2];exact Blk.new _ _ _ _ (by simp)
 have hn:=hr.n3.1;have HQ:=hE fun W (y:z0o)=>x2q W 9998 y x
 unfold maxLen at hn;unfold lvA;go_enter Tryz.func79,Tryz.ntmps79
 go_wp2_with fail;rw[←hW2];clear hW2;go_loopw [11] (fun i wr=>∃ k:Nat,k≤v.l.jts.length∧i=.int .i64 k∧Lx w wr v∧Blk wr (w.heap.size+1) 90 #[.int .i64 x.el,.int .i64 x.sd]∧Blk wr (w.heap.size+1+1) 90 #[.int .i64 0,.int .i64 0]∧Hid (z03 (v.l.jts.drop k) x=z03 v.l.jts x)) (fun i _=>v.l.jts.length - (intOf i).toNat)
 case atStart=>exact ⟨0,nZ,rfl,hbx,hx1,hz1,hE rfl⟩
 case round=>
  obtain ⟨k,hk,rfl,hb,hxb,hzb,HK⟩:=hrel;clear hbx hx1 hz1;have hsz:=hzb.lt;have hsz1:=hxb.lt;have hbb:=hb.bel;by_cases hlt:k < v.l.jts.length
  ·have hki:(k:Int) < (v.l.jts.length:Int):=by omega
   obtain ⟨b,off,hA,lb,ho,y0,y1,y2,y3⟩:=hb.rd.r3.elJ hlt;have hba:=hb.alloc (.cells #[.int .i64 v.l.jts[k].a.el,.int .i64 v.l.jts[k].a.sd,.int .i64 v.l.jts[k].b.el,.int .i64 v.l.jts[k].b.sd] 107);have hxa:=hxb.alloc (.cells #[.int .i64 v.l.jts[k].a.el,.int .i64 v.l.jts[k].a.sd,.int .i64 v.l.jts[k].b.el,.int .i64 v.l.jts[k].b.sd] 107);have hza:=hzb.alloc (.cells #[.int .i64 v.l.jts[k].a.el,.int .i64 v.l.jts[k].a.sd,.int .i64 v.l.jts[k].b.el,.int .i64 v.l.jts[k].b.sd] 107);have z0:wr.cell? ⟨w.heap.size+1,0,none⟩=some (.int .i64 x.el):=hxb.cell 0;have z1:wr.cell? ⟨w.heap.size+1,1,none⟩=some (.int .i64 x.sd):=hxb.cell 1;have q0:wr.cell? ⟨w.heap.size+1+1,0,none⟩=some (.int .i64 0):=hzb.cell 0;have q1:wr.cell? ⟨w.heap.size+1+1,1,none⟩=some (.int .i64 0):=hzb.cell 1;have qf:=hzb.free;have hB:=hE hba.bel;rw[hA];have hqa:=fun W=>HQ.out W v.l.jts[k].a
   have hqb:=fun W=>HQ.out W v.l.jts[k].b
   have HJ:=hE (j1u hlt x)
   cases hd:decide (v.l.jts[k].a=x) with
   | true=>
    have HE:Hid (z03 v.l.jts x=some v.l.jts[k].b):=hE (by rw[←HK.out,HJ.out,if_pos (oDt hd)]);rw[hd] at hqa;clear hd hA ho HJ HK hqb;generalize v.l.jts[k]=q at *;go_wp2_with fail
    exact bodyPost_ret (v:=.tuple #[.agg #[.int .i64 q.b.el,.int .i64 q.b.sd],.bool true]) (by simp[results,Tryz.results79,go_sem,q0,q1,hsz]) rfl ⟨y3n HE.out rfl rfl rfl,blz⟩
   | false=>
    rw[hd] at hqa
    cases hd2:decide (v.l.jts[k].b=x) with
    | true=>
     have HE:Hid (z03 v.l.jts x=some v.l.jts[k].a):=hE (by rw[←HK.out,HJ.out,if_neg (of_decide_eq_false hd),if_pos (oDt hd2)]);rw[hd2] at hqb;clear hd hd2 hA ho HJ HK;generalize v.l.jts[k]=q at *;go_wp2_with fail
     exact bodyPost_ret (v:=.tuple #[.agg #[.int .i64 q.a.el,.int .i64 q.a.sd],.bool true]) (by simp[results,Tryz.results79,go_sem,q0,q1,hsz]) rfl ⟨y3n HE.out rfl rfl rfl,blz⟩
    | false=>
     have HX:Hid (z03 (v.l.jts.drop (k+1)) x=z03 v.l.jts x):=hE (by rw[←HK.out,HJ.out,if_neg (of_decide_eq_false hd),if_neg (of_decide_eq_false hd2)]);rw[hd2] at hqb;clear hd hd2 hA ho HJ HK;generalize v.l.jts[k]=q at *;go_wp2_with fail
     go_roundw
     case rel=>exact ⟨k+1,by omega,by go_num,hba,hxa,hza,HX⟩
     case measure=>simp[intOf];omega
  ·have HE:Hid (z03 v.l.jts x=none):=hE (by rw[←HK.out,List.drop_of_length_le (by omega)];rfl);have q0:wr.cell? ⟨w.heap.size+1+1,0,none⟩=some (.int .i64 0):=hzb.cell 0;have q1:wr.cell? ⟨w.heap.size+1+1,1,none⟩=some (.int .i64 0):=hzb.cell 1;have qf:=hzb.free;have hB:=hb.bel;clear hb hxb hzb;go_wp2_with fail
   exact bodyPost_ret (v:=.tuple #[.agg #[.int .i64 0,.int .i64 0],.bool false]) (by simp[results,Tryz.results79,go_sem,q0,q1,hsz]) rfl ⟨y3n HE.out rfl rfl rfl,blz⟩
theorem y7t (v:LV) (i:Int) (w:World) (hr:LvR w v):Calls Tryz.prog 100 #[lvA v,.int .i64 i] w fun e w'=>e=.returned (.bool (z2u v.l i))∧Below w.heap.size w w':=by
 have hbx:=Lx.new hr;have hn:=hr.n2.1;unfold maxLen at hn;unfold lvA;by_cases h0:0≤i;case neg=>
  have HX:Hid (z2u v.l i=false):=hE (by simp[z2u,h0]);have t1:decide (0≤i)=false:=by simpa using h0
  go_enter Tryz.func100,Tryz.ntmps100
  go_wp2_with fail;go_ret
  exact ⟨z0a HX.out.symm,hbx.bel⟩
 case pos=>
  have t1:decide (0≤i)=true:=by simpa using h0
  by_cases h1:i < v.l.els.length
  ·have HX:Hid (z2u v.l i=true):=hE (by simp[z2u,h0,h1]);have t2:decide (i < (v.l.els.length:Int))=true:=by simpa using h1
   go_enter Tryz.func100,Tryz.ntmps100
   go_wp2_with fail;go_ret
   exact ⟨z0a HX.out.symm,hbx.bel⟩
  ·have HX:Hid (z2u v.l i=false):=hE (by simp[z2u,h0,h1]);have t2:decide (i < (v.l.els.length:Int))=false:=by simpa using h1
   go_enter Tryz.func100,Tryz.ntmps100
   go_wp2_with fail;go_ret
   exact ⟨z0a HX.out.symm,hbx.bel⟩
theorem z4l {b:Bool} (v:LV) (i:Int) (h:z2u v.l i=b) (w:World) (hr:LvR w v):Calls Tryz.prog 100 #[.agg (z1b v),.int .i64 i] w fun e w'=>e=.returned (.bool b)∧Below w.heap.size w w':=h▸y7t v i w hr
theorem z5r {l:Lay} {n:Nat} (h:n < l.els.length):z0q l (n:Int)=l.els[n].kind:=by simp[z0q,h]
theorem x7r {l:Lay} {n:Nat} (h:n < l.els.length):z6m l (n:Int)=l.els[n].len:=by simp[z6m,h]
theorem z5a {l:Lay} {i:Int} (h:z2u l i=true):∃ n:Nat,i=n∧n < l.els.length:=by
 rw[z4h] at h;exact ⟨i.toNat,by omega,by omega⟩
theorem j8n {k i o:Int} {r:Option Int} (h:z1x k i o=r) (w:World) (E:EnvR w):Calls Tryz.prog 84 #[.int .i64 k,.int .i64 i,.int .i64 o] w fun e w'=>e=.returned (.tuple #[.int .i64 (r.getD 0),.bool r.isSome])∧Below w.heap.size w w':=h▸y3s k i o w E
theorem y5u (v:LV) (s:Stp) (w:World) (E:EnvR w) (hr:LvR w v):Calls Tryz.prog 98 #[lvA v,.agg #[.int .i64 s.el,.int .i64 s.inn,.int .i64 s.out]] w fun e w'=>e=.returned (.tuple #[.int .i64 ((x1k v.l s).getD 0),.bool (x1k v.l s).isSome])∧Below w.heap.size w w':=by
 obtain ⟨el,inn,out⟩:=s;dsimp only;obtain ⟨W2,hW2⟩:∃ W,W=(w.alloc (.cells (z1b v) 28)).alloc (.cells #[.int .i64 el,.int .i64 inn,.int .i64 out] 85):=⟨_,rfl⟩
 have hbx:Lx w W2 v:=by rw[hW2];exact (Lx.new hr).alloc _
 have hx1:Blk W2 (w.heap.size+1) 85 #[.int .i64 el,.int .i64 inn,.int .i64 out]:=by rw[hW2];exact Blk.new _ _ _ _ (by simp)
 have hn:=hr.n2.1;unfold maxLen at hn;unfold lvA
 cases he:z2u v.l el with
 | false=>
  have HX:Hid (x1k v.l ⟨el,inn,out⟩=none):=hE (by unfold x1k;dsimp only;rw[he];rfl);have HE:=hE (z4l v el he W2 hbx.rd);go_enter Tryz.func98,Tryz.ntmps98
  go_wp2_with fail;rw[←hW2];refine HE.out.mono ?_;rintro e w3 ⟨rfl,hq⟩;have hb3:=z00 hbx.bel hbx.bel.size hq;clear hW2;go_wp2_with fail
  exact bodyPost_ret (v:=.tuple #[.int .i64 0,.bool false]) (by simp[results,Tryz.results98,go_sem]) rfl ⟨by rw[HX.out];rfl,hb3⟩
 | true=>
  obtain ⟨n,rfl,hlt⟩:=z5a he;have HE:=hE (z4l v n he W2 hbx.rd);obtain ⟨r,hr2⟩:∃ r,z1x v.l.els[n].kind inn out=r:=⟨_,rfl⟩
  have HX:Hid (x1k v.l ⟨(n:Int),inn,out⟩=r):=hE (by unfold x1k;dsimp only;rw[he,if_pos rfl,z5r hlt];exact hr2);have HN:=hE fun W E=>j8n hr2 W E
  go_enter Tryz.func98,Tryz.ntmps98
  go_wp2_with fail;rw[←hW2];refine HE.out.mono ?_;rintro e w3 ⟨rfl,hq⟩;have hb3:=hbx.now hq;have hx3:=hx1.now hq;obtain ⟨b,off,hA,lb,ho,y0,y1,y2,y3,y4,y5,y6⟩:=hb3.rd.r2.elE hlt;have E3:=E.now hb3.bel;have hbb:=hb3.bel;have x2:=hb3.x2;rw[hA] at x2;have z0:=hx3.cell 0;have z1:=hx3.cell 1;have z2:=hx3.cell 2;have lz:=hx3.lt;simp only[gqA,gqZ,gqS] at z0 z1 z2;have lb':b < w3.heap.size:=lb;have hki:(n:Int) < (v.l.els.length:Int):=by omega
  clear hW2 hbx hx1 hb3 hx3 HE hq y0 y2 y3 y4 y5 y6 ho he E;generalize v.l.els[n].kind=kd at *;go_upto_region 3 with (fail)
  have HSS:Hid (∀ W,Below w3.heap.size w3 W→(fun w'=>w'.cell? ⟨w.heap.size,2,none⟩=some (.slice (some ⟨b,off,none⟩) v.l.els.length v.c2)∧w'.cell? ⟨w.heap.size+1,0,none⟩=some (.int .i64 n)∧w'.cell? ⟨w.heap.size+1,1,none⟩=some (.int .i64 inn)∧w'.cell? ⟨w.heap.size+1,2,none⟩=some (.int .i64 out)∧w'.cell? ⟨b,off+n*7+1,none⟩=some (.int .i64 kd)∧Below w3.heap.size w3 w') W):=hE fun W h=>⟨(h.cell (p:=⟨w.heap.size,2,none⟩) (show w.heap.size < w3.heap.size by omega)).trans x2,(h.cell (p:=⟨w.heap.size+1,0,none⟩) lz).trans z0,(h.cell (p:=⟨w.heap.size+1,1,none⟩) lz).trans z1,(h.cell (p:=⟨w.heap.size+1,2,none⟩) lz).trans z2,(h.cell (p:=⟨b,off+n*7+1,none⟩) lb').trans y1,h⟩
  clear x2 z0 z1 z2 y1;refine rgS 16 HSS fun hHeld=>?_
  refine tkM 11 [0,1,2,3,4,5,6,7,8,9,10] ?_;refine rd1 11 rfl fun K hK=>?_
  go_simp;go_at_call 84
  refine (HN.out _ (E3.now bQ.drew)).mono ?_;rintro e wq ⟨rfl,hqq⟩;have hbq:Below w3.heap.size w3 wq:=bQ.drew.trans hqq;go_wp2_with fail
  refine hK.out _ _ (HSS.out _ hbq) (fun hHeld=>?_);clear hK K;try simp only[Act.put,lsa,lsz,lss]
  refine tkM 4 [12,13,14,15] ?_;refine wdn ?_;have hbz:=z00 hbb hbb.size hbq;go_wp2_with fail
  exact bodyPost_ret (v:=.tuple #[.int .i64 (r.getD 0),.bool r.isSome]) (by simp[results,Tryz.results98,go_sem]) rfl ⟨by rw[HX.out],hbz⟩
theorem x6d {w w':World} {p:Addr} {u:Value} (h:w.cell? p=some u) (hb:Below w.heap.size w w'):w'.cell? p=some u:=(hb.cell (cell_lt h)).trans h
def SRd (w:World) (v:z1q) (gx:Nat) (x:Stg) (bp op:Nat) (p:Int) (W:World):Prop:=
 W.cell? ⟨w.heap.size,0,none⟩=some (.slice v.A1 v.t.rts.length v.c1)∧W.cell? ⟨w.heap.size,1,none⟩=some (.slice v.A2 v.t.pts.length v.c2)∧W.cell? ⟨w.heap.size,2,none⟩=some (.slice v.A3 v.t.homes.length v.c3)∧W.cell? ⟨w.heap.size,3,none⟩=some (.int .i64 v.t.nsec)∧W.cell? ⟨w.heap.size,4,none⟩=some (.int .i64 v.t.nsig)∧W.cell? ⟨gx,0,none⟩=some (.int .i64 x.el)∧W.cell? ⟨bp,op,none⟩=some (.int .i64 p)∧(Bx w W v∧Blk W gx 78 #[.int .i64 x.el,.int .i64 x.pos])
section
variable {w W W':World} {v:z1q} {gx bp op:Nat} {x:Stg} {p:Int}
theorem SRd.mk (h:Bx w W v) (hg:Blk W gx 78 #[.int .i64 x.el,.int .i64 x.pos]) (hp:W.cell? ⟨bp,op,none⟩=some (.int .i64 p)):SRd w v gx x bp op p W:=⟨h.x0,h.x1,h.x2,h.x3,h.x4,hg.cell 0,hp,h,hg⟩
theorem SRd.all (h:SRd w v gx x bp op p W):Bx w W v∧Blk W gx 78 #[.int .i64 x.el,.int .i64 x.pos]:=h.2.2.2.2.2.2.2
theorem SRd.now (h:SRd w v gx x bp op p W) (hb:Below W.heap.size W W'):SRd w v gx x bp op p W':=SRd.mk (h.all.1.now hb) (h.all.2.now hb) (x6d h.2.2.2.2.2.2.1 hb)
end
theorem x5d (v:z1q) (x:Int) (b:Bool) (hb:decide (x∉v.t.pts)=b) (w:World) (hr:TvR w v):Calls Tryz.prog 60 #[tvA v,.int .i64 x] w fun e w'=>(∃ n:Int,e=.returned (.int .i64 n)∧decide (n < 0)=b)∧Below w.heap.size w w':=(x1e v x w hr).mono fun _ _ ⟨⟨n,h1,h2⟩,h3⟩=>⟨⟨n,h1,by rw[←hb];exact decide_eq_decide.2 h2⟩,h3⟩
theorem j7b {t:Tab} {l:List Stg} {k j:Nat} {x p:Stg} (hk:k=j+1) (h1:l.getD k zG=x) (h2:l.getD j zG=p) (h:x.el≤p.el):stB t l k=false:=by
 subst hk;unfold stB;rw[h1,Nat.add_sub_cancel,h2,dFf (show ¬j+1=0 by omega),dFf (show ¬p.el < x.el by omega)];simp
theorem j0a {t:Tab} {l:List Stg} {k:Nat} {x:Stg} (h1:l.getD k zG=x) (h:x.el∉t.pts):stB t l k=false:=by unfold stB;rw[h1,dFf h];rfl
theorem j0b {t:Tab} {l:List Stg} {k:Nat} {x:Stg} (h1:l.getD k zG=x) (h:x.pos≠1) (h':x.pos≠2):stB t l k=false:=by unfold stB;rw[h1,dFf h,dFf h'];simp
theorem x59 {t:Tab} {l:List Stg} {k:Nat} {x:Stg} (hk:k=0) (h1:l.getD k zG=x) (h:x.el∈t.pts) (h':x.pos=1∨x.pos=2):stB t l k=true:=by
 subst hk;unfold stB;rw[h1,dTt h];rcases h' with h' | h' <;> simp[h']
theorem x5b {t:Tab} {l:List Stg} {k j:Nat} {x p:Stg} (hk:k=j+1) (h1:l.getD k zG=x) (h2:l.getD j zG=p) (h:x.el∈t.pts) (h':x.pos=1∨x.pos=2) (h3:¬x.el≤p.el):stB t l k=true:=by
 subst hk;unfold stB;rw[h1,Nat.add_sub_cancel,h2,dTt h,dTt (show p.el < x.el by omega)];rcases h' with h' | h' <;> simp[h']
theorem z8j (v:z1q) (l:List Stg) (A:Option Addr) (cap:Nat) (w:World) (hr:TvR w v) (hl:RdS z3h w (Lt w) A l) (hn:l.length≤maxLen):Calls Tryz.prog 55 #[tvA v,.slice A l.length cap] w fun e w'=>e=.returned (.bool (y0q v.t l))∧Below w.heap.size w w':=by
 have hbx:=Bx.new hr;unfold maxLen at hn;have HY:Hid (∀ k,k < l.length→stB v.t l k=false→y0q v.t l=false):=hE fun k hk h=>by unfold y0q;rw[y94 hk h]
 have HZ:Hid ((∀ k,k < l.length→stB v.t l k=true)→y0q v.t l=true):=hE fun h=>by unfold y0q;rw[y5x h]
 have HLR:=hE hl;clear hl;unfold tvA;go_enter Tryz.func55,Tryz.ntmps55
 go_wp2_with fail;go_loopw [9] (fun n wr=>∃ k:Nat,k≤l.length∧n=.int .i64 k∧Bx w wr v∧Hid (∀ j,j < k→stB v.t l j=true)) (fun n _=>l.length - (intOf n).toNat)
 case atStart=>exact ⟨0,nZ,rfl,hbx,hE (fun j hj=>absurd hj (Nat.not_lt_zero _))⟩
 case round=>
  obtain ⟨k,hk,rfl,hb,HK⟩:=hrel;clear hbx;by_cases hlt:k < l.length
  ·have hki:(k:Int) < (l.length:Int):=by omega
   have hl:=HLR.out.now hb.bel;obtain ⟨b,off,hA,lb,-,y0,y1⟩:=hl.elG hlt;have hba:=hb.alloc (.cells #[.int .i64 l[k].el,.int .i64 l[k].pos] 78);have hgx:Blk (wr.alloc (.cells #[.int .i64 l[k].el,.int .i64 l[k].pos] 78)) wr.heap.size 78 #[.int .i64 l[k].el,.int .i64 l[k].pos]:=Blk.new _ _ _ _ rfl;have HNO:=hE (HY.out k hlt);have HGQ:=hE (getD_at hlt zG);have hcase:(k=0∧SRd w v wr.heap.size l[k] wr.heap.size 0 l[k].el (wr.alloc (.cells #[.int .i64 l[k].el,.int .i64 l[k].pos] 78)))∨∃ j p,k=j+1∧l.getD j zG=p∧SRd w v wr.heap.size l[k] b (off+(k - 1)*2) p.el (wr.alloc (.cells #[.int .i64 l[k].el,.int .i64 l[k].pos] 78)):=by
    by_cases hk0:k=0
    ·exact Or.inl ⟨hk0,SRd.mk hba hgx (hgx.cell 0)⟩
    ·refine Or.inr ⟨k - 1,l[k - 1],by omega,getD_at (by omega) zG,SRd.mk hba hgx ?_⟩;obtain ⟨b',off',hA',_,-,u0,_⟩:=(HLR.out.now hba.bel).elG (show k - 1 < l.length by omega);obtain ⟨rfl,rfl⟩:b=b'∧off=off':=by rw[hA] at hA';simp only[qE,Addr.mk.injEq] at hA';exact ⟨hA'.1,hA'.2.1⟩
     exact u0
   clear hgx HLR;rw[hA];clear hA hl;generalize l[k]=q at *;rcases hcase with ⟨hk0,hss⟩ | ⟨j,p,hj,hp,hss⟩
   ·have hz0':decide ((0:Int) < (k:Int))=false:=by simp;omega
    have hz0n:decide (0 < k)=false:=by simp;omega
    have HK0:=hE hk0;clear hk0;go_wp2_with fail
    generalize wr.alloc (.cells #[.int .i64 q.el,.int .i64 q.pos] 78)=W0 at *;generalize wr.heap.size=gx at *;clear y0 y1 hb hba lb;have HIX:Hid (∀ (bb:Bool) W,decide (q.el∉v.t.pts)=bb→SRd w v gx q gx 0 q.el W→Calls Tryz.prog 60 #[.agg (z0s v),.int .i64 q.el] W fun e w'=>(∃ n:Int,e=.returned (.int .i64 n)∧decide (n < 0)=bb)∧Below W.heap.size W w'):=hE fun bb W hb h=>x5d v q.el bb hb W h.all.1.rd
    by_cases hin:q.el∈v.t.pts
    ·have HB1:Hid (decide (q.el∉v.t.pts)=false):=hE (by simp[hin]);by_cases hp1:q.pos=1
     ·have HX:=hE (upto_succ HK.out (x59 HK0.out HGQ.out hin (Or.inl hp1)));have t1:(q.pos != 1)=false:=by simp[hp1]
      clear HNO HGQ HK hin hp1;refine rgH 20 (S:=(fun w'=>w'.cell? ⟨w.heap.size,0,none⟩=some (.slice v.A1 v.t.rts.length v.c1)∧w'.cell? ⟨w.heap.size,1,none⟩=some (.slice v.A2 v.t.pts.length v.c2)∧w'.cell? ⟨w.heap.size,2,none⟩=some (.slice v.A3 v.t.homes.length v.c3)∧w'.cell? ⟨w.heap.size,3,none⟩=some (.int .i64 v.t.nsec)∧w'.cell? ⟨w.heap.size,4,none⟩=some (.int .i64 v.t.nsig)∧w'.cell? ⟨gx,0,none⟩=some (.int .i64 q.el)∧w'.cell? ⟨gx,0,none⟩=some (.int .i64 q.el)∧(Bx w w' v∧Blk w' gx 78 #[.int .i64 q.el,.int .i64 q.pos]))) (hss.now bQ.drew) fun hHeld=>?_
      refine tkM 17 [0,1,2,3,4,5,6,7,8,9,10,11,12,13,14,15,16] ?_;refine rd1 17 rfl fun K hK=>?_
      go_simp;go_at_call 60
      refine (HIX.out false _ HB1.out hHeld).mono ?_;rintro e wq ⟨⟨n,rfl,hn⟩,hq⟩;have hq0:SRd w v gx q gx 0 q.el wq:=SRd.now hHeld hq;go_wp2_with fail
      refine hK.out _ _ hq0 (fun hHeld=>?_);clear hK K;try simp only[Act.put,lsa,lsz,lss]
      refine tkM 2 [18,19] ?_;refine wdn ?_;have hbz:=SRd.all hHeld;have z1:=hbz.2.cell 1;simp only[gqA,gqZ,gqS] at z1;go_wp2_with fail
      go_roundw
      case rel=>exact ⟨k+1,by omega,by go_num,hbz.1,HX⟩
      case measure=>simp[intOf];omega
     ·
      by_cases hp2:q.pos=2
      ·have HX:=hE (upto_succ HK.out (x59 HK0.out HGQ.out hin (Or.inr hp2)));have t1:(q.pos != 1)=true:=by simp[hp1]
       have t2:(q.pos != 2)=false:=by simp[hp2]
       clear HNO HGQ HK hin hp1 hp2;refine rgH 20 (S:=(fun w'=>w'.cell? ⟨w.heap.size,0,none⟩=some (.slice v.A1 v.t.rts.length v.c1)∧w'.cell? ⟨w.heap.size,1,none⟩=some (.slice v.A2 v.t.pts.length v.c2)∧w'.cell? ⟨w.heap.size,2,none⟩=some (.slice v.A3 v.t.homes.length v.c3)∧w'.cell? ⟨w.heap.size,3,none⟩=some (.int .i64 v.t.nsec)∧w'.cell? ⟨w.heap.size,4,none⟩=some (.int .i64 v.t.nsig)∧w'.cell? ⟨gx,0,none⟩=some (.int .i64 q.el)∧w'.cell? ⟨gx,0,none⟩=some (.int .i64 q.el)∧(Bx w w' v∧Blk w' gx 78 #[.int .i64 q.el,.int .i64 q.pos]))) (hss.now bQ.drew) fun hHeld=>?_
       refine tkM 17 [0,1,2,3,4,5,6,7,8,9,10,11,12,13,14,15,16] ?_;refine rd1 17 rfl fun K hK=>?_
       go_simp;go_at_call 60
       refine (HIX.out false _ HB1.out hHeld).mono ?_;rintro e wq ⟨⟨n,rfl,hn⟩,hq⟩;have hq0:SRd w v gx q gx 0 q.el wq:=SRd.now hHeld hq;go_wp2_with fail
       refine hK.out _ _ hq0 (fun hHeld=>?_);clear hK K;try simp only[Act.put,lsa,lsz,lss]
       refine tkM 2 [18,19] ?_;refine wdn ?_;have hbz:=SRd.all hHeld;have z1:=hbz.2.cell 1;simp only[gqA,gqZ,gqS] at z1;go_wp2_with fail
       go_roundw
       case rel=>exact ⟨k+1,by omega,by go_num,hbz.1,HX⟩
       case measure=>simp[intOf];omega
      ·have HX:=hE (HNO.out (j0b HGQ.out hp1 hp2));have t1:(q.pos != 1)=true:=by simp[hp1]
       have t2:(q.pos != 2)=true:=by simp[hp2]
       clear HNO HGQ HK hin hp1 hp2;refine rgH 20 (S:=(fun w'=>w'.cell? ⟨w.heap.size,0,none⟩=some (.slice v.A1 v.t.rts.length v.c1)∧w'.cell? ⟨w.heap.size,1,none⟩=some (.slice v.A2 v.t.pts.length v.c2)∧w'.cell? ⟨w.heap.size,2,none⟩=some (.slice v.A3 v.t.homes.length v.c3)∧w'.cell? ⟨w.heap.size,3,none⟩=some (.int .i64 v.t.nsec)∧w'.cell? ⟨w.heap.size,4,none⟩=some (.int .i64 v.t.nsig)∧w'.cell? ⟨gx,0,none⟩=some (.int .i64 q.el)∧w'.cell? ⟨gx,0,none⟩=some (.int .i64 q.el)∧(Bx w w' v∧Blk w' gx 78 #[.int .i64 q.el,.int .i64 q.pos]))) (hss.now bQ.drew) fun hHeld=>?_
       refine tkM 17 [0,1,2,3,4,5,6,7,8,9,10,11,12,13,14,15,16] ?_;refine rd1 17 rfl fun K hK=>?_
       go_simp;go_at_call 60
       refine (HIX.out false _ HB1.out hHeld).mono ?_;rintro e wq ⟨⟨n,rfl,hn⟩,hq⟩;have hq0:SRd w v gx q gx 0 q.el wq:=SRd.now hHeld hq;go_wp2_with fail
       refine hK.out _ _ hq0 (fun hHeld=>?_);clear hK K;try simp only[Act.put,lsa,lsz,lss]
       refine tkM 2 [18,19] ?_;refine wdn ?_;have hbz:=SRd.all hHeld;have z1:=hbz.2.cell 1;simp only[gqA,gqZ,gqS] at z1;go_wp2_with fail
       go_ret;exact ⟨z0a HX.out.symm,hbz.1.bel⟩
    ·have HB1:Hid (decide (q.el∉v.t.pts)=true):=hE (by simp[hin]);have HX:=hE (HNO.out (j0a HGQ.out hin));clear HNO HGQ HK hin;refine rgH 20 (S:=(fun w'=>w'.cell? ⟨w.heap.size,0,none⟩=some (.slice v.A1 v.t.rts.length v.c1)∧w'.cell? ⟨w.heap.size,1,none⟩=some (.slice v.A2 v.t.pts.length v.c2)∧w'.cell? ⟨w.heap.size,2,none⟩=some (.slice v.A3 v.t.homes.length v.c3)∧w'.cell? ⟨w.heap.size,3,none⟩=some (.int .i64 v.t.nsec)∧w'.cell? ⟨w.heap.size,4,none⟩=some (.int .i64 v.t.nsig)∧w'.cell? ⟨gx,0,none⟩=some (.int .i64 q.el)∧w'.cell? ⟨gx,0,none⟩=some (.int .i64 q.el)∧(Bx w w' v∧Blk w' gx 78 #[.int .i64 q.el,.int .i64 q.pos]))) (hss.now bQ.drew) fun hHeld=>?_
     refine tkM 17 [0,1,2,3,4,5,6,7,8,9,10,11,12,13,14,15,16] ?_;refine rd1 17 rfl fun K hK=>?_
     go_simp;go_at_call 60
     refine (HIX.out true _ HB1.out hHeld).mono ?_;rintro e wq ⟨⟨n,rfl,hn⟩,hq⟩;have hq0:SRd w v gx q gx 0 q.el wq:=SRd.now hHeld hq;go_wp2_with fail
     refine hK.out _ _ hq0 (fun hHeld=>?_);clear hK K;try simp only[Act.put,lsa,lsz,lss]
     refine tkM 2 [18,19] ?_;refine wdn ?_;have hbz:=SRd.all hHeld;go_wp2_with fail
     go_ret;exact ⟨z0a HX.out.symm,hbz.1.bel⟩
   ·have hz0':decide ((0:Int) < (k:Int))=true:=by simp;omega
    have hz0n:decide (0 < k)=true:=by simp;omega
    have hwk:IntKind.i64.wrap ((k:Int) - 1)=(k:Int) - 1:=IntWalk.i64_in _ (by omega);have hzp:(0:Int) < (k:Int):=by omega
    have hz1:(1:Int)≤(k:Int):=by omega
    have hz2:1≤k:=by omega
    have hz3:0 < k:=by omega
    have hz4:(0:Int)≤(k:Int) - 1:=by omega
    have hkm:(k:Int) - 1 < (l.length:Int):=by omega
    have hkt:((k:Int) - 1).toNat=k - 1:=by omega
    have HJ:=hE hj;have HGP:=hE hp;clear hj hp;go_wp2_with fail
    generalize wr.alloc (.cells #[.int .i64 q.el,.int .i64 q.pos] 78)=W0 at *;generalize wr.heap.size=gx at *;clear y0 y1 hb hba lb;by_cases hle:q.el≤p.el
    ·have hled:decide (q.el≤p.el)=true:=by simpa using hle
     have HX:=hE (HNO.out (j7b HJ.out HGQ.out HGP.out hle));clear HNO HGQ HGP HK hle;refine rgH 20 (S:=(fun w'=>w'.cell? ⟨w.heap.size,0,none⟩=some (.slice v.A1 v.t.rts.length v.c1)∧w'.cell? ⟨w.heap.size,1,none⟩=some (.slice v.A2 v.t.pts.length v.c2)∧w'.cell? ⟨w.heap.size,2,none⟩=some (.slice v.A3 v.t.homes.length v.c3)∧w'.cell? ⟨w.heap.size,3,none⟩=some (.int .i64 v.t.nsec)∧w'.cell? ⟨w.heap.size,4,none⟩=some (.int .i64 v.t.nsig)∧w'.cell? ⟨gx,0,none⟩=some (.int .i64 q.el)∧w'.cell? ⟨b,off+(k - 1)*2,none⟩=some (.int .i64 p.el)∧(Bx w w' v∧Blk w' gx 78 #[.int .i64 q.el,.int .i64 q.pos]))) (hss.now bQ.drew) fun hHeld=>?_
     refine tkM 20 [0,1,2,3,4,5,6,7,8,9,10,11,12,13,14,15,16,17,18,19] ?_;refine wdn ?_;have hbz:=SRd.all (gx:=gx) (x:=q) (p:=p.el) (bp:=b) (op:=off+(k - 1)*2) hHeld;go_wp2_with fail
     go_ret;exact ⟨z0a HX.out.symm,hbz.1.bel⟩
    have hled:decide (q.el≤p.el)=false:=by simpa using hle
    have HLE:=hE hle;clear hle;have HIX:Hid (∀ (bb:Bool) W,decide (q.el∉v.t.pts)=bb→SRd w v gx q b (off+(k - 1)*2) p.el W→Calls Tryz.prog 60 #[.agg (z0s v),.int .i64 q.el] W fun e w'=>(∃ n:Int,e=.returned (.int .i64 n)∧decide (n < 0)=bb)∧Below W.heap.size W w'):=hE fun bb W hb h=>x5d v q.el bb hb W h.all.1.rd
    by_cases hin:q.el∈v.t.pts
    ·have HB1:Hid (decide (q.el∉v.t.pts)=false):=hE (by simp[hin]);by_cases hp1:q.pos=1
     ·have HX:=hE (upto_succ HK.out (x5b HJ.out HGQ.out HGP.out hin (Or.inl hp1) HLE.out));have t1:(q.pos != 1)=false:=by simp[hp1]
      clear HNO HGQ HK hin hp1;refine rgH 20 (S:=(fun w'=>w'.cell? ⟨w.heap.size,0,none⟩=some (.slice v.A1 v.t.rts.length v.c1)∧w'.cell? ⟨w.heap.size,1,none⟩=some (.slice v.A2 v.t.pts.length v.c2)∧w'.cell? ⟨w.heap.size,2,none⟩=some (.slice v.A3 v.t.homes.length v.c3)∧w'.cell? ⟨w.heap.size,3,none⟩=some (.int .i64 v.t.nsec)∧w'.cell? ⟨w.heap.size,4,none⟩=some (.int .i64 v.t.nsig)∧w'.cell? ⟨gx,0,none⟩=some (.int .i64 q.el)∧w'.cell? ⟨b,off+(k - 1)*2,none⟩=some (.int .i64 p.el)∧(Bx w w' v∧Blk w' gx 78 #[.int .i64 q.el,.int .i64 q.pos]))) (hss.now bQ.drew) fun hHeld=>?_
      refine tkM 17 [0,1,2,3,4,5,6,7,8,9,10,11,12,13,14,15,16] ?_;refine rd1 17 rfl fun K hK=>?_
      go_simp;go_at_call 60
      refine (HIX.out false _ HB1.out hHeld).mono ?_;rintro e wq ⟨⟨n,rfl,hn⟩,hq⟩;have hq0:SRd w v gx q b (off+(k - 1)*2) p.el wq:=SRd.now hHeld hq;go_wp2_with fail
      refine hK.out _ _ hq0 (fun hHeld=>?_);clear hK K;try simp only[Act.put,lsa,lsz,lss]
      refine tkM 2 [18,19] ?_;refine wdn ?_;have hbz:=SRd.all hHeld;have z1:=hbz.2.cell 1;simp only[gqA,gqZ,gqS] at z1;go_wp2_with fail
      go_roundw
      case rel=>exact ⟨k+1,by omega,by go_num,hbz.1,HX⟩
      case measure=>simp[intOf];omega
     ·
      by_cases hp2:q.pos=2
      ·have HX:=hE (upto_succ HK.out (x5b HJ.out HGQ.out HGP.out hin (Or.inr hp2) HLE.out));have t1:(q.pos != 1)=true:=by simp[hp1]
       have t2:(q.pos != 2)=false:=by simp[hp2]
       clear HNO HGQ HK hin hp1 hp2;refine rgH 20 (S:=(fun w'=>w'.cell? ⟨w.heap.size,0,none⟩=some (.slice v.A1 v.t.rts.length v.c1)∧w'.cell? ⟨w.heap.size,1,none⟩=some (.slice v.A2 v.t.pts.length v.c2)∧w'.cell? ⟨w.heap.size,2,none⟩=some (.slice v.A3 v.t.homes.length v.c3)∧w'.cell? ⟨w.heap.size,3,none⟩=some (.int .i64 v.t.nsec)∧w'.cell? ⟨w.heap.size,4,none⟩=some (.int .i64 v.t.nsig)∧w'.cell? ⟨gx,0,none⟩=some (.int .i64 q.el)∧w'.cell? ⟨b,off+(k - 1)*2,none⟩=some (.int .i64 p.el)∧(Bx w w' v∧Blk w' gx 78 #[.int .i64 q.el,.int .i64 q.pos]))) (hss.now bQ.drew) fun hHeld=>?_
       refine tkM 17 [0,1,2,3,4,5,6,7,8,9,10,11,12,13,14,15,16] ?_;refine rd1 17 rfl fun K hK=>?_
       go_simp;go_at_call 60
       refine (HIX.out false _ HB1.out hHeld).mono ?_;rintro e wq ⟨⟨n,rfl,hn⟩,hq⟩;have hq0:SRd w v gx q b (off+(k - 1)*2) p.el wq:=SRd.now hHeld hq;go_wp2_with fail
       refine hK.out _ _ hq0 (fun hHeld=>?_);clear hK K;try simp only[Act.put,lsa,lsz,lss]
       refine tkM 2 [18,19] ?_;refine wdn ?_;have hbz:=SRd.all hHeld;have z1:=hbz.2.cell 1;simp only[gqA,gqZ,gqS] at z1;go_wp2_with fail
       go_roundw
       case rel=>exact ⟨k+1,by omega,by go_num,hbz.1,HX⟩
       case measure=>simp[intOf];omega
      ·have HX:=hE (HNO.out (j0b HGQ.out hp1 hp2));have t1:(q.pos != 1)=true:=by simp[hp1]
       have t2:(q.pos != 2)=true:=by simp[hp2]
       clear HNO HGQ HK hin hp1 hp2;refine rgH 20 (S:=(fun w'=>w'.cell? ⟨w.heap.size,0,none⟩=some (.slice v.A1 v.t.rts.length v.c1)∧w'.cell? ⟨w.heap.size,1,none⟩=some (.slice v.A2 v.t.pts.length v.c2)∧w'.cell? ⟨w.heap.size,2,none⟩=some (.slice v.A3 v.t.homes.length v.c3)∧w'.cell? ⟨w.heap.size,3,none⟩=some (.int .i64 v.t.nsec)∧w'.cell? ⟨w.heap.size,4,none⟩=some (.int .i64 v.t.nsig)∧w'.cell? ⟨gx,0,none⟩=some (.int .i64 q.el)∧w'.cell? ⟨b,off+(k - 1)*2,none⟩=some (.int .i64 p.el)∧(Bx w w' v∧Blk w' gx 78 #[.int .i64 q.el,.int .i64 q.pos]))) (hss.now bQ.drew) fun hHeld=>?_
       refine tkM 17 [0,1,2,3,4,5,6,7,8,9,10,11,12,13,14,15,16] ?_;refine rd1 17 rfl fun K hK=>?_
       go_simp;go_at_call 60
       refine (HIX.out false _ HB1.out hHeld).mono ?_;rintro e wq ⟨⟨n,rfl,hn⟩,hq⟩;have hq0:SRd w v gx q b (off+(k - 1)*2) p.el wq:=SRd.now hHeld hq;go_wp2_with fail
       refine hK.out _ _ hq0 (fun hHeld=>?_);clear hK K;try simp only[Act.put,lsa,lsz,lss]
       refine tkM 2 [18,19] ?_;refine wdn ?_;have hbz:=SRd.all hHeld;have z1:=hbz.2.cell 1;simp only[gqA,gqZ,gqS] at z1;go_wp2_with fail
       go_ret;exact ⟨z0a HX.out.symm,hbz.1.bel⟩
    ·have HB1:Hid (decide (q.el∉v.t.pts)=true):=hE (by simp[hin]);have HX:=hE (HNO.out (j0a HGQ.out hin));clear HNO HGQ HK hin;refine rgH 20 (S:=(fun w'=>w'.cell? ⟨w.heap.size,0,none⟩=some (.slice v.A1 v.t.rts.length v.c1)∧w'.cell? ⟨w.heap.size,1,none⟩=some (.slice v.A2 v.t.pts.length v.c2)∧w'.cell? ⟨w.heap.size,2,none⟩=some (.slice v.A3 v.t.homes.length v.c3)∧w'.cell? ⟨w.heap.size,3,none⟩=some (.int .i64 v.t.nsec)∧w'.cell? ⟨w.heap.size,4,none⟩=some (.int .i64 v.t.nsig)∧w'.cell? ⟨gx,0,none⟩=some (.int .i64 q.el)∧w'.cell? ⟨b,off+(k - 1)*2,none⟩=some (.int .i64 p.el)∧(Bx w w' v∧Blk w' gx 78 #[.int .i64 q.el,.int .i64 q.pos]))) (hss.now bQ.drew) fun hHeld=>?_
     refine tkM 17 [0,1,2,3,4,5,6,7,8,9,10,11,12,13,14,15,16] ?_;refine rd1 17 rfl fun K hK=>?_
     go_simp;go_at_call 60
     refine (HIX.out true _ HB1.out hHeld).mono ?_;rintro e wq ⟨⟨n,rfl,hn⟩,hq⟩;have hq0:SRd w v gx q b (off+(k - 1)*2) p.el wq:=SRd.now hHeld hq;go_wp2_with fail
     refine hK.out _ _ hq0 (fun hHeld=>?_);clear hK K;try simp only[Act.put,lsa,lsz,lss]
     refine tkM 2 [18,19] ?_;refine wdn ?_;have hbz:=SRd.all hHeld;go_wp2_with fail
     go_ret;exact ⟨z0a HX.out.symm,hbz.1.bel⟩
  ·have HX:=hE (HZ.out fun j hj=>HK.out j (by omega));go_wp2_with fail
   go_ret;exact ⟨z0a HX.out.symm,hb.bel⟩
end Go.Proofs.YtpenlfedkacglaaGreatDoor
namespace Go.Proofs.YtpenlfedkacglaaGreatDoor
open Go.RowKit
attribute [local go_sem] z05 z09 z01 z02
attribute [-go_sem] run_equalIn_agg
structure RS (w0:World) (v:z1q) (r:z2t) (w:World):Prop where
 bel:Below w0.heap.size w0 w
 b0:Blk w w0.heap.size 33 (z0s v)
 b1:Blk w (w0.heap.size+1) 56 (z0f r)
section
variable {w0 w w':World} {v:z1q} {r:z2t}
theorem RS.new (w0:World) (v:z1q) (r:z2t):RS w0 v r ((w0.alloc (.cells (z0s v) 33)).alloc (.cells (z0f r) 56)):=
 ⟨(bQ.alloc nL _).alloc (by simp) _,(Blk.new _ _ _ _ rfl).alloc _,Blk.new _ _ _ _ (by simp)⟩
theorem RS.now (h:RS w0 v r w) (hb:Below w.heap.size w w'):RS w0 v r w':=⟨z00 h.bel h.bel.size hb,h.b0.now hb,h.b1.now hb⟩
theorem RS.alloc (h:RS w0 v r w) (o:Obj):RS w0 v r (w.alloc o):=h.now (bQ.alloc nL o)
theorem RS.put (h:RS w0 v r w) {g:Nat} (hg:w0.heap.size+2≤g) (j:Nat) (u:Value):RS w0 v r (w.setCell ⟨g,j,none⟩ u):=⟨h.bel.setCell (p:=⟨g,j,none⟩) (show w0.heap.size≤g by omega) u,h.b0.far (p:=⟨g,j,none⟩) (show w0.heap.size≠g by omega) u,h.b1.far (p:=⟨g,j,none⟩) (show w0.heap.size+1≠g by omega) u⟩
end
def z95 (l:List Int):Array Value:=((List.range 24).map fun j:Nat=>Value.bool (decide ((j:Int)∈l))).toArray
theorem y6a (l:List Int) {n:Nat} (h:n < 24):(z95 l)[n]? = some (.bool (decide ((n:Int)∈l))):=by
 unfold z95;simp[h]
theorem y6b (l:List Int) {n:Nat} (h:n < 24):(z95 l).setIfInBounds n (.bool true)=z95 (l++[(n:Int)]):=by
 apply Array.ext
 ·simp[z95]
 ·intro i h1 h2;simp only[z95,Array.size_setIfInBounds] at h1 ⊢;simp at h1;by_cases e:i=n
  ·subst e;simp[z95]
  ·have e2:¬((i:Int)=(n:Int)):=by omega
   simp[z95,Array.getElem_setIfInBounds,e2,show ¬n=i by omega]
theorem x4q {w:World} {g:Nat} {T:TypeId} {A B:Option Addr} {a b:List Int} {ca cb:Nat} (h:Blk w g T #[.slice A a.length ca,.slice B b.length cb]) (ha:RdS cI w (Lt w) A a) (hb:RdS cI w (Lt w) B b) (na:a.length≤maxLen∧a.length≤ca) (nb:b.length≤maxLen∧b.length≤cb):RdS (cL cI) w (Lt w) (some ⟨g,0,none⟩) [a,b]:=by
 refine fun _=>⟨g,0,rfl,h.lt,fun i x hi=>?_⟩
 match i,hi with
 | 0,hi=>
  simp at hi;subst hi;exact ⟨[.slice A a.length ca],⟨A,ca,rfl,na,ha⟩,fun j u hu=>by
   match j,hu with
   | 0,hu=>simp at hu;subst hu;exact h.cell 0
   | j+1,hu=>simp at hu⟩
 | 1,hi=>
  simp at hi;subst hi;exact ⟨[.slice B b.length cb],⟨B,cb,rfl,nb,hb⟩,fun j u hu=>by
   match j,hu with
   | 0,hu=>simp at hu;subst hu;exact h.cell 1
   | j+1,hu=>simp at hu⟩
 | i+2,hi=>simp at hi
theorem j3f {t:Tab} {r:Rou} (h:inB r.ent 0 (t.nsig - 1)=false):z7p t r=false:=by unfold z7p;rw[h];rfl
theorem j3g {t:Tab} {r:Rou} (h:r.ext≠-1) (h2:inB r.ext 0 (t.nsig - 1)=false):z7p t r=false:=by
 have:inB r.ext (-1) (t.nsig - 1)=false:=by
  rw[←Bool.not_eq_true,z1d] at h2 ⊢;omega
 unfold z7p;rw[this];simp
theorem x2r {t:Tab} {r:Rou} (hs:0≤t.nsig) (h:r.ext = -1∨inB r.ext 0 (t.nsig - 1)=true):inB r.ext (-1) (t.nsig - 1)=true:=by
 rw[z1d] at *;omega
theorem y41 {t:Tab} {r:Rou} (h:r.path.length < 1∨12 < r.path.length):z7p t r=false:=by
 have:(decide (1≤r.path.length) && decide (r.path.length≤12))=false:=by
  rcases h with h | h
  ·rw[dFf (by omega)];rfl
  ·rw[dFf (show ¬r.path.length≤12 by omega),Bool.and_false]
 unfold z7p;rw[this];simp
theorem x4v {t:Tab} {r:Rou} (h:r.secs.length=0):z7p t r=false:=by
 unfold z7p;rw[List.length_eq_zero_iff.1 h];simp
theorem x4w {t:Tab} {r:Rou} (h:x53 t (r.secs++r.osecs)=false):z7p t r=false:=by unfold z7p;rw[h];simp
theorem x4u {t:Tab} {r:Rou} (h1:inB r.ent 0 (t.nsig - 1)=true) (h2:inB r.ext (-1) (t.nsig - 1)=true) (h3:¬r.path.length < 1) (h4:¬12 < r.path.length) (h5:r.secs.length≠0) (h6:x53 t (r.secs++r.osecs)=true):z7p t r=(inB r.app 0 (t.nsec - 1) && decide (1≤r.len)):=by
 unfold z7p;rw[h1,h2,h6,dTt (show 1≤r.path.length by omega),dTt (show r.path.length≤12 by omega),dTt (show r.secs≠[] from fun e=>h5 (by rw[e];rfl))];rfl
theorem x57 {t:Tab} {l:List Int} {k:Nat} (hk:k < l.length) (h:inB l[k] 0 (t.nsec - 1)=false):x53 t l=false:=by unfold x53;rw[z4n hk h];rfl
theorem x58 {t:Tab} {l:List Int} {k:Nat} (hk:k < l.length) (h:l[k]∈l.take k):x53 t l=false:=by unfold x53;rw[dFf (z5v hk h),Bool.and_false]
theorem x56 {t:Tab} {l:List Int} {k:Nat} (hk:¬k < l.length) (h:(l.take k).all (fun s=>inB s 0 (t.nsec - 1))=true) (h2:(l.take k).Nodup):x53 t l=true:=by
 rw[tlL (by omega)] at h h2;unfold x53;rw[h,dTt h2];rfl
def j7m (t:Tab) (l:List Int) (k:Nat):Prop:=(l.take k).all (fun s=>inB s 0 (t.nsec - 1))=true∧(l.take k).Nodup
theorem y7v.j9j {w:World} {base:Nat} {e:TypeId} {v:Value} {l:List Int} (h:y7v cI w base e v l):z07 cI w base e v l 0:=by
 obtain ⟨xs,h1,h2,_⟩:=h;have key:∀ {l:List Int} {xs:List Value} {S S':Nat→Prop},RdC cI w S xs l→RdC cI w S' xs l:=by
  intro l
  induction l with
  | nil=>exact fun h=>h
  | cons a l ih=>exact fun ⟨y,z,h1,h2,h3⟩=>⟨y,z,h1,h2,ih h3⟩
 exact ⟨xs,h1,key h2,nZ⟩
theorem y1i (v:z1q) (r:z2t) (w:World) (hr:TvR w v) (hrr:RvR w (Lt w) r) (hs1:0≤v.t.nsec) (hs2:v.t.nsec≤24) (hg1:0≤v.t.nsig) (hg2:v.t.nsig≤20) (hl3:r.r.secs.length≤40000) (hl6:r.r.osecs.length≤40000) :
  Calls Tryz.prog 54 #[tvA v,.agg (z0f r)] w fun e w'=>e=.returned (.bool (z7p v.t r.r))∧Below w.heap.size w w':=by
 have hS:=RS.new w v r;have x3:=hS.b0.cell 3;have x4:=hS.b0.cell 4;have y1:=hS.b1.cell 1;have y2:=hS.b1.cell 2;have y3:=hS.b1.cell 3;have y5:=hS.b1.cell 5;have y10:=hS.b1.cell 10;simp only[gqA,gqZ,gqS] at x3 x4 y1 y2 y3 y5 y10;have hB:=hS.bel;unfold tvA
 cases c1:inB r.r.ent 0 (v.t.nsig - 1) with
 | false=>
  have HX:=hE (j3f c1);have HC1:=hE fun W=>z1h c1 W (by omega)
  clear c1;go_enter Tryz.func54,Tryz.ntmps54
  go_wp2_with (go_at_call 52;refine (HC1.out _).mono ?_;rintro e wq ⟨rfl,rfl⟩)
  go_ret
  exact ⟨z0a HX.out.symm,hB⟩
 | true=>
  have HC1:=hE fun W=>z1h c1 W (by omega)
  by_cases hx:r.r.ext = -1
  ·have HE:=hE (x2r (t:=v.t) (r:=r.r) hg1 (Or.inl hx));have hxb:(r.r.ext != -1)=false:=by simp[hx]
   clear hx;by_cases p1:r.r.path.length < 1
   ·have HX:=hE (y41 (t:=v.t) (Or.inl p1));have p1i:((r.r.path.length:Int) < 1):=by omega
    clear p1;go_enter Tryz.func54,Tryz.ntmps54
    go_wp2_with fail;refine (HC1.out _).mono ?_;rintro e wq ⟨rfl,rfl⟩;go_wp2_with fail
    go_ret;exact ⟨z0a HX.out.symm,hB⟩
   by_cases p2:12 < r.r.path.length
   ·have HX:=hE (y41 (t:=v.t) (Or.inr p2));have p1i:¬((r.r.path.length:Int) < 1):=by omega
    have p2i:((12:Int) < r.r.path.length):=by omega
    clear p1 p2;go_enter Tryz.func54,Tryz.ntmps54
    go_wp2_with fail;refine (HC1.out _).mono ?_;rintro e wq ⟨rfl,rfl⟩;go_wp2_with fail
    go_ret;exact ⟨z0a HX.out.symm,hB⟩
   by_cases p3:r.r.secs.length=0
   ·have HX:=hE (x4v (t:=v.t) p3);have p1i:¬((r.r.path.length:Int) < 1):=by omega
    have p2i:¬((12:Int) < r.r.path.length):=by omega
    have p3i:((r.r.secs.length:Int)==0)=true:=by rw[beq_iff_eq];omega
    clear p1 p2 p3;go_enter Tryz.func54,Tryz.ntmps54
    go_wp2_with fail;refine (HC1.out _).mono ?_;rintro e wq ⟨rfl,rfl⟩;go_wp2_with fail
    go_ret;exact ⟨z0a HX.out.symm,hB⟩
   have HF:=hE (x4u (t:=v.t) (r:=r.r) c1 HE.out p1 p2 p3);have HP3:=hE p3;have p1i:¬((r.r.path.length:Int) < 1):=by omega
   have p2i:¬((12:Int) < r.r.path.length):=by omega
   have p3i:((r.r.secs.length:Int)==0)=false:=by rw[beq_eq_false_iff_ne];omega
   clear p1 p2 p3 c1;go_enter Tryz.func54,Tryz.ntmps54
   go_wp2_with fail;refine (HC1.out _).mono ?_;rintro e wq ⟨rfl,rfl⟩;go_wp2_with fail
   have hU:Blk ((((w.alloc (.cells (z0s v) 33)).alloc (.cells (z0f r) 56)).alloc (.cells #[.bool false,.bool false,.bool false,.bool false,.bool false,.bool false,.bool false,.bool false,.bool false,.bool false,.bool false,.bool false,.bool false,.bool false,.bool false,.bool false,.bool false,.bool false,.bool false,.bool false,.bool false,.bool false,.bool false,.bool false] 168)).alloc (.cells #[.slice r.A3 r.r.secs.length r.c3,.slice r.A6 r.r.osecs.length r.c6] 31)) (w.heap.size+1+1) 168 (z95 []):=(Blk.new _ _ _ _ (by simp)).alloc _;have hA:Blk ((((w.alloc (.cells (z0s v) 33)).alloc (.cells (z0f r) 56)).alloc (.cells #[.bool false,.bool false,.bool false,.bool false,.bool false,.bool false,.bool false,.bool false,.bool false,.bool false,.bool false,.bool false,.bool false,.bool false,.bool false,.bool false,.bool false,.bool false,.bool false,.bool false,.bool false,.bool false,.bool false,.bool false] 168)).alloc (.cells #[.slice r.A3 r.r.secs.length r.c3,.slice r.A6 r.r.osecs.length r.c6] 31)) (w.heap.size+1+1+1) 31 #[.slice r.A3 r.r.secs.length r.c3,.slice r.A6 r.r.osecs.length r.c6]:=Blk.new _ _ _ _ (by simp);have hS2:=(hS.alloc (.cells #[.bool false,.bool false,.bool false,.bool false,.bool false,.bool false,.bool false,.bool false,.bool false,.bool false,.bool false,.bool false,.bool false,.bool false,.bool false,.bool false,.bool false,.bool false,.bool false,.bool false,.bool false,.bool false,.bool false,.bool false] 168)).alloc (.cells #[.slice r.A3 r.r.secs.length r.c3,.slice r.A6 r.r.osecs.length r.c6] 31);have hz2:=hA.lt;generalize (((w.alloc (.cells (z0s v) 33)).alloc (.cells (z0f r) 56)).alloc (.cells #[.bool false,.bool false,.bool false,.bool false,.bool false,.bool false,.bool false,.bool false,.bool false,.bool false,.bool false,.bool false,.bool false,.bool false,.bool false,.bool false,.bool false,.bool false,.bool false,.bool false,.bool false,.bool false,.bool false,.bool false] 168)).alloc (.cells #[.slice r.A3 r.r.secs.length r.c3,.slice r.A6 r.r.osecs.length r.c6] 31)=W4 at *;have HCC:=hE (z81 [r.r.secs,r.r.osecs] (some ⟨w.heap.size+1+1+1,0,none⟩) 2 W4 (x4q hA (hrr.r3.now hS2.bel) (hrr.r6.now hS2.bel) hrr.o.n3 hrr.o.n6) (by simp) (by intro l hl;simp only[List.mem_cons,List.not_mem_nil,or_false] at hl;rcases hl with rfl | rfl <;> assumption));refine HCC.out.mono ?_;rintro e w5 ⟨v5,rfl,hlow,hq⟩;have hown:=hlow.j9j;rw[show [r.r.secs,r.r.osecs].flatten=r.r.secs++r.r.osecs by simp] at hown;have hS5:=hS2.now hq;have hU5:=hU.now hq;have HNO:=hE (x4w (t:=v.t) (r:=r.r));have HL0:0 < (r.r.secs++r.r.osecs).length:=by have:=HP3.out;rw[qL];omega
   have hLm:(r.r.secs++r.r.osecs).length≤90000:=by rw[qL];omega
   clear hlow hq hS2 hU hA HCC hS x3 x4 y1 y2 y3 y5 y10 hB p1i p2i p3i HP3 hrr;generalize r.r.secs++r.r.osecs=L at *;obtain ⟨g6,c6,rfl,hc6⟩:=y8u hown HL0;go_wp2_with fail
   go_loopw [50] (fun n wr=>∃ k:Nat,k≤L.length∧n=.int .i64 k∧RS w v r wr∧Blk wr (w.heap.size+1+1) 168 (z95 (L.take k))∧z07 cI wr W4.heap.size 3 (.slice (some ⟨g6,0,none⟩) L.length c6) L 0∧Hid (j7m v.t L k)) (fun n _=>L.length - (intOf n).toNat)
   case atStart=>exact ⟨0,nZ,rfl,hS5,hU5,hown,hE ⟨by simp,by simp⟩⟩
   case round=>
    clear hS5 hU5 hown;obtain ⟨k,hk,rfl,hS,hU,hown,HK⟩:=hrel;have x3:=hS.b0.cell 3;simp only[gqA,gqZ,gqS] at x3;by_cases hlt:k < L.length
    ·have hki:(k:Int) < (L.length:Int):=by omega
     have y0:=(y5n hown hlt).1;rw[Nat.zero_add] at y0
     cases c3:inB L[k] 0 (v.t.nsec - 1) with
     | false=>
      have HX:=hE (HNO.out (x57 hlt c3));have HC3:=hE fun W=>z1h c3 W (by omega)
      clear c3 HK;generalize L[k]=q at *;go_wp2_with fail
      refine (HC3.out _).mono ?_;rintro e wq ⟨rfl,rfl⟩;go_wp2_with fail
      go_ret
      exact ⟨z0a HX.out.symm,hS.bel⟩
     | true=>
      have HC3:=hE fun W=>z1h c3 W (by omega)
      obtain ⟨n,hn⟩:=Int.eq_ofNat_of_zero_le (z1d.1 c3).1;have hn24:n < 24:=by have:=(z1d.1 c3).2;omega
      have hni:(n:Int) < 24:=by omega
      have u0:=(hU.cell n).trans (y6a _ hn24);have hf:=hU.free n;by_cases hm:L[k]∈L.take k
      ·have HX:=hE (HNO.out (x58 hlt hm));rw[hn] at hm;rw[dTt hm] at u0;clear c3 HK hm;rw[hn] at y0 HC3;clear hn;go_wp2_with fail
       refine (HC3.out _).mono ?_;rintro e wq ⟨rfl,rfl⟩;go_wp2_with fail
       go_ret;exact ⟨z0a HX.out.symm,hS.bel⟩
      ·have HK2:Hid (j7m v.t L (k+1)):=hE ⟨z3v hlt HK.out.1 c3,z3u hlt HK.out.2 hm⟩;have HT:Hid (L.take (k+1)=L.take k++[(n:Int)]):=hE (by rw[tqS hlt,hn]);rw[hn] at hm;rw[dFf hm] at u0;rw[hn] at y0 HC3;have HS2:=hE (hS.put (show w.heap.size+2≤w.heap.size+1+1 by omega) n (.bool true));have HU2:=hU.set n (.bool true);rw[y6b _ hn24,←HT.out] at HU2;have HU3:=hE HU2;have HO2:=hE (hown.set (w.heap.size+1+1) n (.bool true) _ _ hU (by decide) nZ);clear c3 HK hm hn HU2;go_wp2_with fail
       refine (HC3.out _).mono ?_;rintro e wq ⟨rfl,rfl⟩;go_wp2_with fail
       go_roundw
       case rel=>exact ⟨k+1,by omega,by go_num,HS2.out,HU3.out,HO2.out,HK2⟩
       case measure=>simp[intOf];omega
    ·have HFF:=HF.out (x56 hlt HK.out.1 HK.out.2);have y6:=hS.b1.cell 6;have y7:=hS.b1.cell 7;simp only[gqA,gqZ,gqS] at y6 y7
     cases c4:inB r.r.app 0 (v.t.nsec - 1) with
     | false=>
      have HX:Hid (z7p v.t r.r=false):=hE (by rw[HFF,c4];rfl);have HC4:=hE fun W=>z1h c4 W (by omega)
      clear c4 HFF HK hU hown;go_wp2_with fail
      refine (HC4.out _).mono ?_;rintro e wq ⟨rfl,rfl⟩;go_wp2_with fail
      go_ret
      exact ⟨z0a HX.out.symm,hS.bel⟩
     | true=>
      have HX:Hid (z7p v.t r.r=decide (1≤r.r.len)):=hE (by rw[HFF,c4,Bool.true_and]);have HC4:=hE fun W=>z1h c4 W (by omega)
      clear c4 HFF HK hU hown;go_wp2_with fail
      refine (HC4.out _).mono ?_;rintro e wq ⟨rfl,rfl⟩;go_wp2_with fail
      go_ret;exact ⟨z0a HX.out.symm,hS.bel⟩
  ·have hxb:(r.r.ext != -1)=true:=by simp[hx]
   cases c2:inB r.r.ext 0 (v.t.nsig - 1) with
   | false=>
    have HX:=hE (j3g hx c2);have HC2:=hE fun W=>z1h c2 W (by omega)
    clear c1 c2 hx;go_enter Tryz.func54,Tryz.ntmps54
    go_wp2_with fail;refine (HC1.out _).mono ?_;rintro e wq ⟨rfl,rfl⟩;go_wp2_with fail
    refine (HC2.out _).mono ?_;rintro e wq ⟨rfl,rfl⟩;go_wp2_with fail
    go_ret
    exact ⟨z0a HX.out.symm,hB⟩
   | true=>
    have HE:=hE (x2r (t:=v.t) (r:=r.r) hg1 (Or.inr c2));have HC2:=hE fun W=>z1h c2 W (by omega)
    clear c2 hx;by_cases p1:r.r.path.length < 1
    ·have HX:=hE (y41 (t:=v.t) (Or.inl p1));have p1i:((r.r.path.length:Int) < 1):=by omega
     clear p1;go_enter Tryz.func54,Tryz.ntmps54
     go_wp2_with fail;refine (HC1.out _).mono ?_;rintro e wq ⟨rfl,rfl⟩;go_wp2_with fail
     refine (HC2.out _).mono ?_;rintro e wq ⟨rfl,rfl⟩;go_wp2_with fail
     go_ret;exact ⟨z0a HX.out.symm,hB⟩
    by_cases p2:12 < r.r.path.length
    ·have HX:=hE (y41 (t:=v.t) (Or.inr p2));have p1i:¬((r.r.path.length:Int) < 1):=by omega
     have p2i:((12:Int) < r.r.path.length):=by omega
     clear p1 p2;go_enter Tryz.func54,Tryz.ntmps54
     go_wp2_with fail;refine (HC1.out _).mono ?_;rintro e wq ⟨rfl,rfl⟩;go_wp2_with fail
     refine (HC2.out _).mono ?_;rintro e wq ⟨rfl,rfl⟩;go_wp2_with fail
     go_ret;exact ⟨z0a HX.out.symm,hB⟩
    by_cases p3:r.r.secs.length=0
    ·have HX:=hE (x4v (t:=v.t) p3);have p1i:¬((r.r.path.length:Int) < 1):=by omega
     have p2i:¬((12:Int) < r.r.path.length):=by omega
     have p3i:((r.r.secs.length:Int)==0)=true:=by rw[beq_iff_eq];omega
     clear p1 p2 p3;go_enter Tryz.func54,Tryz.ntmps54
     go_wp2_with fail;refine (HC1.out _).mono ?_;rintro e wq ⟨rfl,rfl⟩;go_wp2_with fail
     refine (HC2.out _).mono ?_;rintro e wq ⟨rfl,rfl⟩;go_wp2_with fail
     go_ret;exact ⟨z0a HX.out.symm,hB⟩
    have HF:=hE (x4u (t:=v.t) (r:=r.r) c1 HE.out p1 p2 p3);have HP3:=hE p3;have p1i:¬((r.r.path.length:Int) < 1):=by omega
    have p2i:¬((12:Int) < r.r.path.length):=by omega
    have p3i:((r.r.secs.length:Int)==0)=false:=by rw[beq_eq_false_iff_ne];omega
    clear p1 p2 p3 c1;go_enter Tryz.func54,Tryz.ntmps54
    go_wp2_with fail;refine (HC1.out _).mono ?_;rintro e wq ⟨rfl,rfl⟩;go_wp2_with fail
    refine (HC2.out _).mono ?_;rintro e wq ⟨rfl,rfl⟩;go_wp2_with fail
    have hU:Blk ((((w.alloc (.cells (z0s v) 33)).alloc (.cells (z0f r) 56)).alloc (.cells #[.bool false,.bool false,.bool false,.bool false,.bool false,.bool false,.bool false,.bool false,.bool false,.bool false,.bool false,.bool false,.bool false,.bool false,.bool false,.bool false,.bool false,.bool false,.bool false,.bool false,.bool false,.bool false,.bool false,.bool false] 168)).alloc (.cells #[.slice r.A3 r.r.secs.length r.c3,.slice r.A6 r.r.osecs.length r.c6] 31)) (w.heap.size+1+1) 168 (z95 []):=(Blk.new _ _ _ _ (by simp)).alloc _;have hA:Blk ((((w.alloc (.cells (z0s v) 33)).alloc (.cells (z0f r) 56)).alloc (.cells #[.bool false,.bool false,.bool false,.bool false,.bool false,.bool false,.bool false,.bool false,.bool false,.bool false,.bool false,.bool false,.bool false,.bool false,.bool false,.bool false,.bool false,.bool false,.bool false,.bool false,.bool false,.bool false,.bool false,.bool false] 168)).alloc (.cells #[.slice r.A3 r.r.secs.length r.c3,.slice r.A6 r.r.osecs.length r.c6] 31)) (w.heap.size+1+1+1) 31 #[.slice r.A3 r.r.secs.length r.c3,.slice r.A6 r.r.osecs.length r.c6]:=Blk.new _ _ _ _ (by simp);have hS2:=(hS.alloc (.cells #[.bool false,.bool false,.bool false,.bool false,.bool false,.bool false,.bool false,.bool false,.bool false,.bool false,.bool false,.bool false,.bool false,.bool false,.bool false,.bool false,.bool false,.bool false,.bool false,.bool false,.bool false,.bool false,.bool false,.bool false] 168)).alloc (.cells #[.slice r.A3 r.r.secs.length r.c3,.slice r.A6 r.r.osecs.length r.c6] 31);have hz2:=hA.lt;generalize (((w.alloc (.cells (z0s v) 33)).alloc (.cells (z0f r) 56)).alloc (.cells #[.bool false,.bool false,.bool false,.bool false,.bool false,.bool false,.bool false,.bool false,.bool false,.bool false,.bool false,.bool false,.bool false,.bool false,.bool false,.bool false,.bool false,.bool false,.bool false,.bool false,.bool false,.bool false,.bool false,.bool false] 168)).alloc (.cells #[.slice r.A3 r.r.secs.length r.c3,.slice r.A6 r.r.osecs.length r.c6] 31)=W4 at *;have HCC:=hE (z81 [r.r.secs,r.r.osecs] (some ⟨w.heap.size+1+1+1,0,none⟩) 2 W4 (x4q hA (hrr.r3.now hS2.bel) (hrr.r6.now hS2.bel) hrr.o.n3 hrr.o.n6) (by simp) (by intro l hl;simp only[List.mem_cons,List.not_mem_nil,or_false] at hl;rcases hl with rfl | rfl <;> assumption));refine HCC.out.mono ?_;rintro e w5 ⟨v5,rfl,hlow,hq⟩;have hown:=hlow.j9j;rw[show [r.r.secs,r.r.osecs].flatten=r.r.secs++r.r.osecs by simp] at hown;have hS5:=hS2.now hq;have hU5:=hU.now hq;have HNO:=hE (x4w (t:=v.t) (r:=r.r));have HL0:0 < (r.r.secs++r.r.osecs).length:=by have:=HP3.out;rw[qL];omega
    have hLm:(r.r.secs++r.r.osecs).length≤90000:=by rw[qL];omega
    clear hlow hq hS2 hU hA HCC hS x3 x4 y1 y2 y3 y5 y10 hB p1i p2i p3i HP3 hrr;generalize r.r.secs++r.r.osecs=L at *;obtain ⟨g6,c6,rfl,hc6⟩:=y8u hown HL0;go_wp2_with fail
    go_loopw [50] (fun n wr=>∃ k:Nat,k≤L.length∧n=.int .i64 k∧RS w v r wr∧Blk wr (w.heap.size+1+1) 168 (z95 (L.take k))∧z07 cI wr W4.heap.size 3 (.slice (some ⟨g6,0,none⟩) L.length c6) L 0∧Hid (j7m v.t L k)) (fun n _=>L.length - (intOf n).toNat)
    case atStart=>exact ⟨0,nZ,rfl,hS5,hU5,hown,hE ⟨by simp,by simp⟩⟩
    case round=>
     clear hS5 hU5 hown;obtain ⟨k,hk,rfl,hS,hU,hown,HK⟩:=hrel;have x3:=hS.b0.cell 3;simp only[gqA,gqZ,gqS] at x3;by_cases hlt:k < L.length
     ·have hki:(k:Int) < (L.length:Int):=by omega
      have y0:=(y5n hown hlt).1;rw[Nat.zero_add] at y0
      cases c3:inB L[k] 0 (v.t.nsec - 1) with
      | false=>
       have HX:=hE (HNO.out (x57 hlt c3));have HC3:=hE fun W=>z1h c3 W (by omega)
       clear c3 HK;generalize L[k]=q at *;go_wp2_with fail
       refine (HC3.out _).mono ?_;rintro e wq ⟨rfl,rfl⟩;go_wp2_with fail
       go_ret
       exact ⟨z0a HX.out.symm,hS.bel⟩
      | true=>
       have HC3:=hE fun W=>z1h c3 W (by omega)
       obtain ⟨n,hn⟩:=Int.eq_ofNat_of_zero_le (z1d.1 c3).1;have hn24:n < 24:=by have:=(z1d.1 c3).2;omega
       have hni:(n:Int) < 24:=by omega
       have u0:=(hU.cell n).trans (y6a _ hn24);have hf:=hU.free n;by_cases hm:L[k]∈L.take k
       ·have HX:=hE (HNO.out (x58 hlt hm));rw[hn] at hm;rw[dTt hm] at u0;clear c3 HK hm;rw[hn] at y0 HC3;clear hn;go_wp2_with fail
        refine (HC3.out _).mono ?_;rintro e wq ⟨rfl,rfl⟩;go_wp2_with fail
        go_ret;exact ⟨z0a HX.out.symm,hS.bel⟩
       ·have HK2:Hid (j7m v.t L (k+1)):=hE ⟨z3v hlt HK.out.1 c3,z3u hlt HK.out.2 hm⟩;have HT:Hid (L.take (k+1)=L.take k++[(n:Int)]):=hE (by rw[tqS hlt,hn]);rw[hn] at hm;rw[dFf hm] at u0;rw[hn] at y0 HC3;have HS2:=hE (hS.put (show w.heap.size+2≤w.heap.size+1+1 by omega) n (.bool true));have HU2:=hU.set n (.bool true);rw[y6b _ hn24,←HT.out] at HU2;have HU3:=hE HU2;have HO2:=hE (hown.set (w.heap.size+1+1) n (.bool true) _ _ hU (by decide) nZ);clear c3 HK hm hn HU2;go_wp2_with fail
        refine (HC3.out _).mono ?_;rintro e wq ⟨rfl,rfl⟩;go_wp2_with fail
        go_roundw
        case rel=>exact ⟨k+1,by omega,by go_num,HS2.out,HU3.out,HO2.out,HK2⟩
        case measure=>simp[intOf];omega
     ·have HFF:=HF.out (x56 hlt HK.out.1 HK.out.2);have y6:=hS.b1.cell 6;have y7:=hS.b1.cell 7;simp only[gqA,gqZ,gqS] at y6 y7
      cases c4:inB r.r.app 0 (v.t.nsec - 1) with
      | false=>
       have HX:Hid (z7p v.t r.r=false):=hE (by rw[HFF,c4];rfl);have HC4:=hE fun W=>z1h c4 W (by omega)
       clear c4 HFF HK hU hown;go_wp2_with fail
       refine (HC4.out _).mono ?_;rintro e wq ⟨rfl,rfl⟩;go_wp2_with fail
       go_ret
       exact ⟨z0a HX.out.symm,hS.bel⟩
      | true=>
       have HX:Hid (z7p v.t r.r=decide (1≤r.r.len)):=hE (by rw[HFF,c4,Bool.true_and]);have HC4:=hE fun W=>z1h c4 W (by omega)
       clear c4 HFF HK hU hown;go_wp2_with fail
       refine (HC4.out _).mono ?_;rintro e wq ⟨rfl,rfl⟩;go_wp2_with fail
       go_ret;exact ⟨z0a HX.out.symm,hS.bel⟩
end Go.Proofs.YtpenlfedkacglaaGreatDoor
namespace Go.Proofs.YtpenlfedkacglaaGreatDoor
open Go.RowKit
open Go.Maps (Keyed)
attribute [local go_sem] z05 z09 z01 z02
attribute [-go_sem] run_equalIn_agg
theorem y9j {l:Lay}:j4n l=true↔∀ i,i < l.secs.length→y69 l i=true:=by
 unfold j4n;rw[laT];exact ⟨fun h i hi=>h i (List.mem_range.2 hi),fun h i hi=>h i (List.mem_range.1 hi)⟩
theorem j3z {l:Lay} {i:Nat} (hi:i < l.secs.length) (h:y69 l i=false):j4n l=false:=by
 rw[Bool.eq_false_iff];intro hu;rw[y9j.1 hu i hi] at h;cases h
theorem j1w (n:Nat):((n:Int)==0)=decide (n=0):=by
 rw[Bool.eq_iff_iff];simp
theorem z94 (v:LV) (hm:v.l.els.length≤1000) (w:World) (hr:LvR w v):Calls Tryz.prog 75 #[lvA v] w fun e w'=>e=.returned (.bool (j4n v.l))∧Below w.heap.size w w':=by
 have hbx:=Lx.new hr;have h1:=hr.n1.1;unfold maxLen at h1;have HM:=hE fun (i:Nat) (hi:i < v.l.secs.length) W (h:LvR W v)=>y7g v i hi hm W h
 have HU:=hE fun (i:Nat)=>(j1w (z4o v.l i v.l.els.length).length).trans (x0r v.l i)
 unfold lvA at HM ⊢;go_enter Tryz.func75,Tryz.ntmps75
 go_wp2_with fail;go_loopw [7] (fun n wr=>∃ k:Nat,k≤v.l.secs.length∧n=.int .i64 k∧Lx w wr v∧Hid (∀ i,i < k→y69 v.l i=true)) (fun n _=>v.l.secs.length - (intOf n).toNat)
 case atStart=>exact ⟨0,nZ,rfl,hbx,hE (fun i h=>absurd h (by omega))⟩
 case round=>
  obtain ⟨k,hk,rfl,hb,HK⟩:=hrel;clear hbx;by_cases hlt:k < v.l.secs.length
  ·have hki:(k:Int) < (v.l.secs.length:Int):=by omega
   have y0:=hb.x0;have y1:=hb.x1;have y2:=hb.x2;have y3:=hb.x3;have y4:=hb.x4;have y5:=hb.x5;have hmk:=HM.out k hlt wr hb.rd;have huk:=HU.out k
   cases hu:y69 v.l k with
   | false=>
    have HX:=hE (j3z hlt hu);rw[hu] at huk;clear hu;generalize (z4o v.l (k:Int) v.l.els.length).length=n at *;go_wp2_with fail
    refine hmk.mono ?_;rintro e w2 ⟨A2,c2,rfl,hb2⟩;go_wp2_with fail
    go_ret
    exact ⟨z0a HX.out.symm,(hb.now hb2).bel⟩
   | true=>
    have HN:Hid (∀ i,i < k+1→y69 v.l i=true):=hE (fun i hi=>by
     by_cases e:i=k
     ·rw[e];exact hu
     ·exact HK.out i (by omega))
    rw[hu] at huk;clear hu;generalize (z4o v.l (k:Int) v.l.els.length).length=n at *;go_wp2_with fail
    refine hmk.mono ?_;rintro e w2 ⟨A2,c2,rfl,hb2⟩;have hbn:=hb.now hb2;clear y0 y1 y2 y3 y4 y5;go_wp2_with fail
    go_roundw
    case rel=>exact ⟨k+1,by omega,by go_num,hbn,HN⟩
    case measure=>simp[intOf];omega
  ·have HX:=hE (y9j.2 (fun i hi=>HK.out i (by omega)));go_wp2_with fail
   go_ret;exact ⟨z0a HX.out.symm,hb.bel⟩
theorem z4f {α:Type} {p:α→Bool} {l:List α} {k:Nat} (h:k < l.length) (ha:(l.take k).all p=true) (hp:p l[k]=true):(l.take (k+1)).all p=true:=by
 rw[tqS h,List.all_append,ha];simp[hp]
theorem z5m {α:Type} {p:α→Bool} {l:List α} {k:Nat} (h:¬k < l.length) (ha:(l.take k).all p=true):l.all p=true:=by
 rwa [tlL (by omega)] at ha
theorem j1b (l:Lay) (e:Elt):x1h l e=(inB e.kind 1 3 && (inB e.len 500 1000000 && (inB e.grd (-50) 50 && (inB e.spd 100 10000 && (inB e.sec 0 ((l.secs.length:Int) - 1) && (if e.kind=2 then inB e.slow 100 e.spd else decide (e.slow=0))))))):=rfl
theorem z9w (v:LV) (w:World) (hr:LvR w v):Calls Tryz.prog 74 #[lvA v] w fun e w'=>e=.returned (.bool (v.l.els.all (x1h v.l)))∧Below w.heap.size w w':=by
  have hbx:=Lx.new hr
  have h1:=hr.n1.1
  have h2:=hr.n2.1
  unfold maxLen at h1 h2
  unfold lvA
  go_enter Tryz.func74,Tryz.ntmps74
  go_wp2_with fail
  go_loopw [8] (fun n wr=>∃ k:Nat,k≤v.l.els.length∧n=.int .i64 k∧Lx w wr v∧Hid ((v.l.els.take k).all (x1h v.l)=true)) (fun n _=>v.l.els.length - (intOf n).toNat)
  case atStart=>exact ⟨0,nZ,rfl,hbx,hE (by simp)⟩
  case round=>
    obtain ⟨k,hk,rfl,hb,HK⟩:=hrel
    clear hbx
    by_cases hlt:k < v.l.els.length
    · have hki:(k:Int) < (v.l.els.length:Int):=by omega
      obtain ⟨b,off,hA,lb,ho,y0,y1,y2,y3,y4,y5,y6⟩:=hb.rd.r2.elE hlt
      have hba:=hb.alloc (.cells #[.string (bs v.l.els[k].name),.int .i64 v.l.els[k].kind,.int .i64 v.l.els[k].len,.int .i64 v.l.els[k].grd,.int .i64 v.l.els[k].spd,.int .i64 v.l.els[k].slow,.int .i64 v.l.els[k].sec] 103)
      have x1:(wr.alloc (.cells #[.string (bs v.l.els[k].name),.int .i64 v.l.els[k].kind,.int .i64 v.l.els[k].len,.int .i64 v.l.els[k].grd,.int .i64 v.l.els[k].spd,.int .i64 v.l.els[k].slow,.int .i64 v.l.els[k].sec] 103)).cell? ⟨w.heap.size,1,none⟩=some (.slice v.A1 v.l.secs.length v.c1):=hba.x1
      have HE:=hE (j1b v.l v.l.els[k])
      have HNO:=hE fun h:x1h v.l v.l.els[k]=false=>z8l (p:=x1h v.l) hlt h
      have HYE:=hE fun h:x1h v.l v.l.els[k]=true=>z4f (p:=x1h v.l) hlt HK.out h
      rw[hA]
      clear hA ho HK
      generalize x1h v.l v.l.els[k]=bb at *
      generalize v.l.els[k]=q at *
      by_cases h2k:q.kind=2
      · have h2b:(q.kind==2)=true:=by simp[h2k]
        have h2n:(q.kind != 2)=false:=by simp[h2k]
        have HE2:Hid (bb=(inB q.kind 1 3 && (inB q.len 500 1000000 && (inB q.grd (-50) 50 && (inB q.spd 100 10000 && (inB q.sec 0 ((v.l.secs.length:Int) - 1) && inB q.slow 100 q.spd)))))):=hE (by rw[HE.out,if_pos h2k])
        clear h2k HE
        go_wp2_with (go_at_call 114;refine (z4u _ _ _ _).mono ?_;rintro e w' ⟨rfl,rfl⟩)
        all_goals first
          | (go_ret
             refine ⟨z0a ?_,hba.bel⟩
             rw[HNO.out (by rw[HE2.out];clear HE2 HNO HYE;simp_all;done)])
          | (go_roundw
             case rel=>exact ⟨k+1,by omega,by go_num,hba,hE (HYE.out (by rw[HE2.out];clear HE2 HNO HYE;simp_all;done))⟩
             case measure=>simp[intOf];omega)
      · have h2b:(q.kind==2)=false:=by simp[h2k]
        have h2n:(q.kind != 2)=true:=by simp[h2k]
        have HE2:Hid (bb=(inB q.kind 1 3 && (inB q.len 500 1000000 && (inB q.grd (-50) 50 && (inB q.spd 100 10000 && (inB q.sec 0 ((v.l.secs.length:Int) - 1) && decide (q.slow=0))))))):=hE (by rw[HE.out,if_neg h2k])
        clear h2k HE
        go_wp2_with (go_at_call 114;refine (z4u _ _ _ _).mono ?_;rintro e w' ⟨rfl,rfl⟩)
        all_goals first
          | (go_ret
             refine ⟨z0a ?_,hba.bel⟩
             rw[HNO.out (by rw[HE2.out];clear HE2 HNO HYE;simp_all;done)])
          | (go_roundw
             case rel=>exact ⟨k+1,by omega,by go_num,hba,hE (HYE.out (by rw[HE2.out];clear HE2 HNO HYE;simp_all;done))⟩
             case measure=>simp[intOf];omega)
    · have HX:=hE (z5m hlt HK.out)
      go_wp2_with fail
      go_ret
      exact ⟨z0a HX.out.symm,hb.bel⟩
end Go.Proofs.YtpenlfedkacglaaGreatDoor
