import Derived.Test.YtpenlfedkacglaaGreatDoorL10
import Derived.ScopeJumps
import Derived.WalkMore
set_option maxRecDepth 100000
set_option maxHeartbeats 40000000
set_option linter.all false
namespace Go.Proofs.YtpenlfedkacglaaGreatDoor
open Go.RowKit
attribute [local go_sem] z05 z07 z01 z02
attribute [-go_sem] run_equalIn_agg
theorem z3b {w:World} {S:Nat→Prop}:∀ {l:List Jnt} {x e:z0o},(∀ j∈l,(z0p j.a.el∧z0p j.a.sd)∧z0p j.b.el∧z0p j.b.sd)→z03 l x=some e→z0p e.el∧z0p e.sd
 | [],_,_,_,h=>by cases h
 | j::r,x,e,hl,h=>by
  unfold z03 at h;have h1:=hl j (mCs ..);split at h
  ·obtain rfl:=sJ h;exact h1.2
  ·split at h
   ·obtain rfl:=sJ h;exact h1.1
   ·exact z3b (w:=w) (S:=S) (fun j hj=>hl j (mCm _ hj)) h
theorem x8d (k i:Int):(z6x k i).length≤2:=by
 unfold z6x;rw[List.length_map];by_cases h:∃ q∈z2i,q.1=k∧q.2.1=i
 ·obtain ⟨q,hq,rfl,rfl⟩:=h;have:∀ q∈z2i,(z2i.filter fun p=>decide (p.1=q.1) && decide (p.2.1=q.2.1)).length≤2:=by decide
  exact this q hq
 ·rw[List.filter_eq_nil_iff.2 fun p hp he=>h ⟨p,hp,by simpa using he⟩];exact nZ
theorem x2n (l:Lay) (e:z0o):(brF l e).length≤2:=by
 unfold brF;split
 ·rw[List.length_map];exact x8d _ _
 ·exact nZ
theorem z8d {l:Lay} {n:Nat} {path:List Stp} {e:z0o} (h:e.el < 0):z1e l n path e=[]:=by
 cases n with
 | zero=>rfl
 | succ n=>
  unfold z1e;have:brF l e=[]:=by
   unfold brF z2w;rw[show decide (0≤e.el)=false by simp;omega];simp
  rw[this];split <;> rfl
def z9h (l:Lay) (n:Nat) (path:List Stp) (s:Stp):List (List Stp):=match z4v l (path++[s]) with
 | some on=>z1e l n (path++[s]) on
 | none=>[path++[s]]
theorem z6v (l:Lay) (n:Nat) (path:List Stp) (e:z0o):z1e l (n+1) path e=if y1o l path e.el=true then (brF l e).flatMap (z9h l n path) else []:=rfl
theorem z6f (l:Lay):∀ n path e,(z1e l n path e).length≤2 ^ n
 | 0,_,_=>by simp[z1e]
 | n+1,path,e=>by
  rw[z6v];split
  ·have h1:∀ s,(z9h l n path s).length≤2 ^ n:=fun s=>by
    unfold z9h;split
    ·exact z6f l n _ _
    ·exact Nat.one_le_two_pow
   have h2:=x2n l e;have:∀ (L:List Stp) (k:Nat),(∀ s,(z9h l n path s).length≤k)→(L.flatMap (z9h l n path)).length≤L.length*k:=fun L k hk=>by
    induction L with
    | nil=>simp
    | cons a L ih=>rw[List.flatMap_cons,qL,lCn,Nat.succ_mul];have:=hk a;omega
   have h3:=this (brF l e) (2 ^ n) h1;have h4:(brF l e).length*2 ^ n≤2*2 ^ n:=Nat.mul_le_mul_right _ h2;rw[Nat.pow_succ];omega
  ·exact nZ
section
variable {P:Program} {a:Act} {w:World} {Q:Exit→Act→World→Prop}
theorem y1c {c A:Code} (l:Nat) (J:Act→World→Prop) (μ:Act→World→Nat) (hf:findLabel c l=some (Code.skip.seq A))
  (pass:∀ a w,J a w→A.wp P (Exit.jump l (fun a' w'=>J a' w'∧μ a' w' < μ a w) Q) a w)
  (first:(∀ a w,J a w→A.wp P (Exit.jump l J Q) a w)→c.wp P (Exit.jump l J Q) a w):(Code.scope c).wp P Q a w:=
 wp_scope_jumps l J μ hf (first fun a w hJ=>wp_mono (pass a w hJ) (by intro e a w h;cases e <;> first | exact h | exact ⟨h.1,h.2.1⟩)) fun a w hJ=>wp_seq (wp_skip (pass a w hJ))
end
theorem z9o {α:Type} {c:Cod α} {w:World} {base n cap B:Nat} {e:TypeId} {A:Option Addr} {l:List α} (h:z09 c w base e (.slice A n cap) l B):∀ a,A=some a→a.spot=none:=by
 obtain ⟨xs,h1,_⟩:=h;rintro a rfl;rcases h1.2 with ⟨hv,_⟩ | ⟨g,cap,cur,hv,_⟩
 ·cases hv
 ·simp only[Value.slice.injEq,qE] at hv;obtain ⟨rfl,_⟩:=hv;rfl
theorem z6t {α:Type} {c:Cod α} {w:World} {base B:Nat} {e:TypeId} {v:Value} {l:List α} (h:z09 c w base e v l B):∀ b,v.ownBlock=some b→b < w.heap.size:=fun b hb=>by
 obtain ⟨xs,h1,_⟩:=h;exact (World.ownsRow.lt h1 b hb).2
theorem y9b {w:World} {v:LV} (hr:LvR w v) {s:Stp} {e:z0o} (h:z7m v.l s=some e):z0p e.el∧z0p e.sd:=
 z3b (w:=w) (S:=Lt w) (fun j hj=>by
  obtain ⟨i,hi,rfl⟩:=List.getElem_of_mem hj;obtain ⟨_,_,_,_,ho,_⟩:=hr.r3.elJ hi;exact ⟨ho.1,ho.2⟩) h
theorem y4a {w:World} {v:LV} (hr:LvR w v) {path:List Stp} {e:z0o} (h:z4v v.l path=some e):z0p e.el∧z0p e.sd:=by
 unfold z4v at h;split at h
 ·exact y9b hr h
 ·cases h
theorem y3p {l:Lay} {m:Nat} {path:List Stp} {s:Stp} (h:z4v l (path++[s])=none):z9h l m path s=[path++[s]]:=by unfold z9h;rw[h]
theorem y3q {l:Lay} {m:Nat} {path:List Stp} {s:Stp} {on:z0o} (h:z4v l (path++[s])=some on):z9h l m path s=z1e l m (path++[s]) on:=by unfold z9h;rw[h]
theorem j1n (l:Lay) (m:Nat) (path:List Stp) (s:Stp):(z9h l m path s).length≤2 ^ m:=by
 unfold z9h;split
 ·exact z6f l m _ _
 ·exact Nat.one_le_two_pow
theorem y8m (l:Lay) (m:Nat) (path:List Stp):∀ L:List Stp,(L.flatMap (z9h l m path)).length≤L.length*2 ^ m
 | []=>by simp
 | a::L=>by
  have h1:=y8m l m path L;have h2:=j1n l m path a;rw[List.flatMap_cons,qL,lCn,Nat.succ_mul];omega
theorem x3m {l:Lay} {m:Nat} {path:List Stp} {L:List Stp} {k:Nat} (h:k < L.length):(L.take (k+1)).flatMap (z9h l m path)=(L.take k).flatMap (z9h l m path)++z9h l m path L[k]:=by
 rw[tqS h,List.flatMap_append];simp
theorem y2l {w:World} {base':Nat} {e:TypeId} {v:Value} {l:List Stp} (h:z09 z1h w base' e v l 0) (hb:base'≤w.heap.size):z2l z1h w base' (fun _=>False) e v l:=by
 obtain ⟨xs,h1,h2,_⟩:=h;exact ⟨xs,h1,RdC.x0n z4b h2,hb⟩
theorem y2r {w:World} {base:Nat} {S:Nat→Prop} {e:TypeId} {v:Value} {l:List Stp} (h:z2l z1h w base S e v l):z09 z1h w base e v l 0:=by
 obtain ⟨xs,h1,h2,_⟩:=h;exact ⟨xs,h1,RdC.x0n z4b h2,nZ⟩
theorem x3b {w w6:World} {gf B' g base:Nat} {v:LV} {ps:List (List Stp)} {x y a b:Value} (h:z1y w6 gf B' v ps) (hz:Blk w6 g 90 #[x,y]) (hfr:FrF gf base w w6) (hb:base≤g) (hg:gf < g) :
  z1y ((w6.setCell ⟨g,0,none⟩ a).setCell ⟨g,1,none⟩ b) gf B' v ps∧Blk ((w6.setCell ⟨g,0,none⟩ a).setCell ⟨g,1,none⟩ b) g 90 #[a,b]∧FrF gf base w ((w6.setCell ⟨g,0,none⟩ a).setCell ⟨g,1,none⟩ b)∧∀ {X:Value} {l:List Stp},z09 z1h w6 base 85 X l 0→z09 z1h ((w6.setCell ⟨g,0,none⟩ a).setCell ⟨g,1,none⟩ b) base 85 X l 0:=
 ⟨z1y.set (z1y.set h hz (by decide) (by decide) (by decide)) (hz.set 0 _) (by decide) (by decide) (by decide),(hz.set 0 _).set 1 _,(hfr.set hb hg).set hb hg,fun ho=>(ho.set g 0 a 90 _ hz (by decide) nZ).set g 1 b 90 _ (hz.set 0 _) (by decide) nZ⟩
structure j9y (v:LV) (gf B base:Nat) (ps:List (List Stp)) (W w:World) (n:Nat) (path:List Stp) (at0:z0o) (path':List Stp) (A:Option Addr) (cap:Nat) (e':z0o) (w':World):Prop where
 len:path'.length≤12
 ge:12 - path'.length≤n
 own:z09 z1h w' base 85 (.slice A path'.length cap) path' 0
 fin:z1y w' gf B v ps
 box:Blk w' w.heap.size 90 #[.int .i64 e'.el,.int .i64 e'.sd]
 frm:FrF gf base w w'
 i64:z0p e'.el∧z0p e'.sd
 fol:z1e v.l (12 - path'.length) path' e' = z1e v.l n path at0
theorem x0o (W:World) (v:LV) (hr:LvR W v) (E:EnvR W) (gf:Nat) (hWs:W.heap.size≤gf):∀ (n B base:Nat) (ps:List (List Stp)) (path:List Stp) (A0:Option Addr) (cap0:Nat) (at0:z0o) (w:World),path.length+n=12→z1y w gf B v ps→Below W.heap.size W w→gf < base→B≤base→base≤w.heap.size→z09 z1h w base 85 (.slice A0 path.length cap0) path 0→(z0p at0.el∧z0p at0.sd)→ps.length+2 ^ n≤90000→
  Calls Tryz.prog 80 #[.pointer (some ⟨gf,0,none⟩),.slice A0 path.length cap0,.agg #[.int .i64 at0.el,.int .i64 at0.sd]] w fun e w'=>e=.returned (.tuple #[])∧z1y w' gf w'.heap.size v (ps++z1e v.l n path at0)∧FrF gf base w w':=by
 intro n
 induction n using Nat.strongRecOn with
 | _ n IH=>
 intro B base ps path A0 cap0 at0 w hn hf hb hgb hBb hbw hown h64 hps;obtain ⟨i0,hi,hy0,hy1,hy2⟩:=info_parts z3d;go_enter Tryz.func80,Tryz.ntmps80
 go_wp2_with fail;obtain ⟨J,hJ0⟩:∃ J:Act→World→Prop,J=(fun a' w'=>∃ (path':List Stp) (A:Option Addr) (cap:Nat) (e':z0o),j9y v gf B base ps W w n path at0 path' A cap e' w'∧∃ (u2 u3 u4 u6 u7 u8 u9 u10 u11 u12 u13 u14 u15 u16 u17 u18 u19 u20 u21 u22 u23 u24 u25 u26 u27 u28 u29 u30 u31 u32 u33 u34 u35 u36 u37 u38 u39 u40 u41 u42 u43 u44 u45 u46 u47 u48 u49 u50 u51 u52 u53 u54 u55 u56 u57 u58 u59 u60 u61 u62 u63 u64:Value),a' = { tmps:=#[.pointer (some ⟨gf,0,none⟩),.slice A path'.length cap,u2,u3,u4,.pointer (some ⟨w.heap.size,0,none⟩),u6,u7,u8,u9,u10,u11,u12,u13,u14,u15,u16,u17,u18,u19,u20,u21,u22,u23,u24,u25,u26,u27,u28,u29,u30,u31,u32,u33,u34,u35,u36,u37,u38,u39,u40,u41,u42,u43,u44,u45,u46,u47,u48,u49,u50,u51,u52,u53,u54,u55,u56,u57,u58,u59,u60,u61,u62,u63,u64],defers:=[] }):=⟨_,rfl⟩
 have hJ:=hE hJ0;clear hJ0;obtain ⟨μ,hμ0⟩:∃ μ:Act→World→Nat,μ=(fun a' _=>match a'.tmps.getD 1 undef with | .slice _ k _=>12 - k | _=>0):=⟨_,rfl⟩
 have hμ:=hE hμ0;clear hμ0;refine y1c 0 J μ rfl ?pass ?first
 case first=>
  intro H;go_wp2_with fail
  rename_i hKK;refine wp_label ?_;refine hKK _ _ (H _ _ ?_);rw[hJ.out];exact ⟨path,A0,cap0,at0,⟨by omega,by omega,hown.alloc _,hf.now (bQ.alloc nL _),Blk.new _ _ _ _ rfl,FrF.of_below (bQ.alloc nL _),h64,by rw[show 12 - path.length=n by omega]⟩,_,_,_,_,_,_,_,_,_,_,_,_,_,_,_,_,_,_,_,_,_,_,_,_,_,_,_,_,_,_,_,_,_,_,_,_,_,_,_,_,_,_,_,_,_,_,_,_,_,_,_,_,_,_,_,_,_,_,_,_,_,_,rfl⟩
 case pass=>
  intro a' w1 HJ;rw[hJ.out] at HJ;obtain ⟨path1,A,cap,e1,HJ,u2,u3,u4,u6,u7,u8,u9,u10,u11,u12,u13,u14,u15,u16,u17,u18,u19,u20,u21,u22,u23,u24,u25,u26,u27,u28,u29,u30,u31,u32,u33,u34,u35,u36,u37,u38,u39,u40,u41,u42,u43,u44,u45,u46,u47,u48,u49,u50,u51,u52,u53,u54,u55,u56,u57,u58,u59,u60,u61,u62,u63,u64,rfl⟩:=HJ;have hge:=HJ.ge;have hb1:=HJ.frm.below hWs hb.size hb;have hr1:=hr.now hb1;have hfin:=HJ.fin;obtain ⟨pv,hfd,hlow,hBw⟩:=HJ.fin;obtain ⟨x0,x1,x2,x3,x4,x5,-⟩:=hfd.x;have lgf:=Blk.lt hfd;have lbx:=HJ.box.lt;have b0:=HJ.box.cell 0;have b1:=HJ.box.cell 1;simp only[gqA,gqZ,gqS] at b0 b1;obtain ⟨hn1,hrd⟩:=HJ.own.rdn;have hspot:=z9o HJ.own;have hrd1:RdS z1h w1 (Lt w1) A path1:=hrd.more fun b h=>h.2
  have hlen:=HJ.len;by_cases h12:path1.length=12
  ·have t1:((path1.length:Int)==12)=true:=by simp;omega
   have HX:=hE (show z1y w1 gf w1.heap.size v (ps++z1e v.l n path at0) by
    rw[←HJ.fol,h12,show 12 - 12=0 from rfl];simp only[z1e,List.append_nil];exact hfin.raise hBw nL)
   have hfr:=HJ.frm;clear HJ h12 hfin hlow;go_wp2_with fail
   simp only[Exit.jump];refine bodyPost_ret (results_none rfl _ _ _) rfl ?_;exact ⟨rfl,HX.out,hfr⟩
  have t1:((path1.length:Int)==12)=false:=by simp;omega
  have HO:=hE (open_any v gf pv path1 A cap e1.el w1 hfd hr1 hrd1 (by omega));obtain ⟨m,hm⟩:∃ m,12 - path1.length=m+1:=⟨11 - path1.length,by omega⟩
  have hmn:m+1≤n:=hm▸hge;have hm12:path1.length+1+m=12:=by omega
  have HM12:=hE hm12;have HF:=hE (hm▸HJ.fol);have hbox:=HJ.box;have hfrm:=HJ.frm;have hown1:=HJ.own;have h64':=HJ.i64;clear HJ hm;go_wp2_with fail
  refine HO.out.mono ?_;rintro e w2 ⟨rfl,hq2⟩
  cases hob:y1o v.l path1 e1.el with
  | false=>
   have HX:=hE (show z1e v.l n path at0=[] by rw[←HF.out,z6v,hob];rfl);have hfin2:=hfin.now hq2;have hfr2:=hfrm.trans (FrF.of_below hq2);clear hfin hlow hob;go_wp2_with fail
   simp only[Exit.jump];refine bodyPost_ret (results_none rfl _ _ _) rfl ?_
   exact ⟨rfl,by rw[HX.out,List.append_nil];exact hfin2.raise (nR hBw hq2.size) nL,hfr2⟩
  | true=>
   have HX:=hE (show (brF v.l e1).flatMap (z9h v.l m path1)=z1e v.l n path at0 by rw[←HF.out,z6v,hob,if_pos rfl]);have hfin2:=hfin.now hq2;have hfr2:=hfrm.trans (FrF.of_below hq2);have hr2:=hr1.now hq2;have hb2:=z00 hb1 hb1.size hq2;have hown2:=hown1.now hq2;have hbox2:=hbox.now hq2;have HBR:=hE fun W' h=>z8o v e1 h64' W' (E.now h) (hr.now h)
   clear hfin hlow hob HO HF hfrm hown1 hbox x0 x1 x2 x3 x4 x5 b0 b1 hfd hrd hrd1 lgf lbx hr1 hq2;obtain ⟨pv2,hfd,hlow,hBw2⟩:=hfin2;obtain ⟨x0,x1,x2,x3,x4,x5,-⟩:=hfd.x;have lgf:=Blk.lt hfd;have lbx:=hbox2.lt;have b0:=hbox2.cell 0;have b1:=hbox2.cell 1;simp only[gqA,gqZ,gqS] at b0 b1;have HSS:Hid (∀ W,Below w2.heap.size w2 W→(fun w'=>w'.cell? ⟨gf,0,none⟩=some (.string (bs v.l.name))∧w'.cell? ⟨gf,1,none⟩=some (.slice v.A1 v.l.secs.length v.c1)∧w'.cell? ⟨gf,2,none⟩=some (.slice v.A2 v.l.els.length v.c2)∧w'.cell? ⟨gf,3,none⟩=some (.slice v.A3 v.l.jts.length v.c3)∧w'.cell? ⟨gf,4,none⟩=some (.slice v.A4 v.l.sgs.length v.c4)∧w'.cell? ⟨gf,5,none⟩=some (.slice v.A5 v.l.bls.length v.c5)∧w'.cell? ⟨w.heap.size,0,none⟩=some (.int .i64 e1.el)∧w'.cell? ⟨w.heap.size,1,none⟩=some (.int .i64 e1.sd)∧Below w2.heap.size w2 w') W):=hE fun W h=>⟨(h.cell (p:=⟨gf,0,none⟩) lgf).trans x0,(h.cell (p:=⟨gf,1,none⟩) lgf).trans x1,(h.cell (p:=⟨gf,2,none⟩) lgf).trans x2,(h.cell (p:=⟨gf,3,none⟩) lgf).trans x3,(h.cell (p:=⟨gf,4,none⟩) lgf).trans x4,(h.cell (p:=⟨gf,5,none⟩) lgf).trans x5,(h.cell (p:=⟨w.heap.size,0,none⟩) lbx).trans b0,(h.cell (p:=⟨w.heap.size,1,none⟩) lbx).trans b1,h⟩
   clear x0 x1 x2 x3 x4 x5 b0 b1;go_wp2_with fail
   refine rgS 7 HSS fun hHeld=>?_
   refine tkM 5 [0,1,2,3,4] ?_;refine rd1 5 rfl fun K hK=>?_
   go_simp;go_at_call 96
   refine (HBR.out _ (hb2.trans (bQ.drew.mono hb2.size))).mono ?_;rintro e w3 ⟨A3,c3,rfl,hst,hq3⟩;have hq3':Below w2.heap.size w2 w3:=bQ.drew.trans hq3;go_wp2_with fail
   refine hK.out _ _ (HSS.out _ hq3') (fun hHeld=>?_);clear hK K;try simp only[Act.put,lsa,lsz,lss]
   refine tkM 1 [6] ?_;refine wdn ?_;have hsz2:w.heap.size < w2.heap.size:=Blk.lt hbox2;have hown3:=hown2.now hq3';have hbox3:=hbox2.now hq3';have hfin3:=z1y.now ⟨pv2,hfd,hlow,hBw2⟩ hq3';have hfr3:=hfr2.trans (FrF.of_below hq3');have hb3:=z00 hb2 hb2.size hq3';have hst3:=hst.lower (show w2.heap.size≤w2.drew.heap.size from nL);obtain ⟨br,hbr⟩:∃ br,brF v.l e1=br:=⟨_,rfl⟩
   have hbr2:br.length≤2:=hbr▸x2n v.l e1;rw[hbr] at hst hst3 HX ⊢;clear hst hq3 hHeld HSS hfd hlow hBw2 hown2 hbox2 hfr2 HBR hbr lgf lbx;by_cases hone:br.length=1;case pos=>
    have t3:((br.length:Int)==1)=true:=by simp;omega
    obtain ⟨s,rfl⟩:∃ s,br=[s]:=List.length_eq_one_iff.1 hone;obtain ⟨hns,hrs⟩:=hst3.rdn;obtain ⟨b,off,hA3,lb,ho3,y0,y1,y2⟩:=hrs.elT (show 0 < [s].length by simp);simp only[List.getElem_cons_zero,Nat.zero_mul,Nat.add_zero,List.length_singleton] at y0 y1 y2 ho3;have hX1:Hid (z9h v.l m path1 s=z1e v.l n path at0):=hE (by rw[←HX.out];simp);have lb3:b < w3.heap.size:=lb.2;subst hA3;clear HX hrs hns hone hst3;obtain ⟨sel,sin,sout⟩:=s;dsimp only at *;have h4:Below w3.heap.size w3 (w3.alloc (.cells #[.int .i64 sel,.int .i64 sin,.int .i64 sout] 85)):=bQ.alloc nL _;have hbz4:Blk (w3.alloc (.cells #[.int .i64 sel,.int .i64 sin,.int .i64 sout] 85)) w3.heap.size 85 #[.int .i64 sel,.int .i64 sin,.int .i64 sout]:=Blk.new _ _ _ _ rfl;have hown4:=hown3.now h4;have hbw3:base≤w3.heap.size:=nR hbw (nR (Nat.le_of_lt (Blk.lt hbox3)) nL);go_wp2_with (at_builtin;go_loud (refine z0m (c:=z1h) _ rfl _ _ 52 rfl base 85 i0 _ 24 Tryz.underlying52 hi hy0 hy1 hy2 rfl (by decide) _ path1 0 rfl hown4 [.int .i64 sel,.int .i64 sin,.int .i64 sout] ⟨sel,sin,sout⟩ ⟨rfl,ho3⟩ (by intro u hu;simp at hu;rcases hu with rfl | rfl | rfl <;> rfl) ⟨w3.heap.size,0,none⟩ 1 rfl (fun j u hj=>by rw[z0g];exact z0f hbz4 j u hj) (by omega) (by omega) (nR hbw3 h4.size) ?_);intro v' w5 hq5)
    obtain ⟨A5,c5,rfl⟩:=hq5.own.form;have hfin5:=(hfin3.now h4).app hown4 hq5 hgb hBb;have hfr5:=(hfr3.trans (FrF.of_below h4)).trans (FrF.app hown4 hq5 hgb);have hb5:=hfr5.below hWs hb.size hb;have hown5:=hq5.own.low z4b
    have hbox5:=hq5.frm.blk (hbox3.now h4) (by decide);have hgw:gf < w.heap.size:=nT hgb hbw;have hpw:1≤2 ^ n:=Nat.one_le_two_pow;have hrw5:RdS z1h w5 (Lt w5) A5 (path1++[⟨sel,sin,sout⟩]):=hown5.rdn.2.more fun b h=>h.2
    have hlw5:(path1++[(⟨sel,sin,sout⟩:Stp)]).length≤1000:=by simp;omega
    have hpw5:ps.length≤90000:=by omega
    have HM:=hE (y49 W v gf B ps _ A5 c5 w5 hfin5 hr hb5 hWs (z9o hown5) hrw5 (by simp) hlw5 hpw5);refine HM.out.mono ?_;rintro e w6 ⟨rfl,hp1,hp2,hfr6⟩;have hbox6:=hfr6.blk hgw (Blk.lt hbox5) (by decide) hbox5;have lbx5:=Blk.lt hbox5;have lbx6:=hbox6.lt;have f0:w6.frozen? ⟨w.heap.size,0,none⟩=false:=Lib.frozen_of_heap hbox6 0;have f1:w6.frozen? ⟨w.heap.size,1,none⟩=false:=Lib.frozen_of_heap hbox6 1;have c0:=hbox6.cell 0;have c1:=hbox6.cell 1;simp only[gqA,gqZ,gqS] at c0 c1;have hown6:=hfr6.own hgb (z6t hown5) hown5
    (try clear HM);(try clear hrw5);(try clear hlw5);(try clear hpw5);(try clear hpw);(try clear hbox5);(try clear hfin5);(try clear hown4);(try clear hq5);(try clear hbz4);(try clear h4);(try clear hb3);(try clear hfr3);(try clear hfin3);(try clear hbox3);(try clear hown3);(try clear lb3);(try clear lb);(try clear hr2);(try clear hb2);(try clear hown2);(try clear hbox2);(try clear y0);(try clear y1);(try clear y2)
    have hle5:base≤w5.heap.size:=nR hbw (Nat.le_of_lt lbx5);have hfr6':=hfr5.trans (hfr6.less hle5)
    cases hpf:z4v v.l (path1++[(⟨sel,sin,sout⟩:Stp)]) with
    | none=>
     have hfin6:=hp2 hpf;dsimp only [y7v];clear hp1 hp2;obtain ⟨hk7,hz7,hf7,-⟩:=x3b (a:=.int .i64 (-1)) (b:=.int .i64 0) hfin6 hbox6 hfr6' hbw hgw;have HX7:=hE (aIq hk7 hf7);have HPF:=hE (hX1.out.symm.trans (y3p hpf));clear hk7 hz7 hf7 hpf hfin6;go_wp2_with fail
     simp only[Exit.jump];refine bodyPost_ret (results_none rfl _ _ _) rfl ⟨rfl,?_,HX7.out.2⟩;rw[HPF.out]
     exact HX7.out.1.raise (by simp[World.setCell]) nL
    | some on=>
     have hfin6:=hp1 _ hpf;have hon:=y4a hr hpf;dsimp only [y7v];clear hp1 hp2;obtain ⟨hk7,hz7,hf7,ho7⟩:=x3b (a:=.int .i64 on.el) (b:=.int .i64 on.sd) hfin6 hbox6 hfr6' hbw hgw;have HO7:=hE (aIq (ho7 hown6) hz7);have HX7:=hE (aIq hk7 hf7);have HPF:=hE (hX1.out.symm.trans (y3q hpf));clear hk7 hz7 hf7 hpf hfin6 ho7;by_cases hpos:0≤on.el;case neg=>
      have t4:decide (0≤on.el)=false:=by simpa using hpos
      have hneg:on.el < 0:=by omega
      go_wp2_with fail;simp only[Exit.jump];refine bodyPost_ret (results_none rfl _ _ _) rfl ⟨rfl,?_,HX7.out.2⟩;rw[HPF.out,z8d hneg,List.append_nil];exact HX7.out.1.raise (by simp[World.setCell];omega) nL
     case pos=>
      have t4:decide (0≤on.el)=true:=by simpa using hpos
      go_wp2_with fail;refine wp_goto ?_;simp only[Exit.then,Exit.jump];refine ⟨rfl,?_,?_⟩
      ·rw[hJ.out];refine ⟨path1++[⟨sel,sin,sout⟩],A5,c5,on,⟨by simp;omega,by simp;omega,HO7.out.1,HX7.out.1,HO7.out.2,HX7.out.2,hon,?_⟩,?_⟩
       ·rw[HPF.out,show 12 - (path1++[(⟨sel,sin,sout⟩:Stp)]).length=m by simp;omega]
       ·rw[qL];exact ⟨_,_,_,_,_,_,_,_,_,_,_,_,_,_,_,_,_,_,_,_,_,_,_,_,_,_,_,_,_,_,_,_,_,_,_,_,_,_,_,_,_,_,_,_,_,_,_,_,_,_,_,_,_,_,_,_,_,_,_,_,_,_,rfl⟩
      ·rw[hμ.out];simp only[Array.getD_eq_getD_getElem?,List.getElem?_toArray,List.getElem?_cons_succ,List.getElem?_cons_zero,Option.getD_some,qL,List.length_singleton];exact Nat.sub_lt_sub_left (show path1.length < 12 by have:=HM12.out;omega) (Nat.lt_succ_self _)
   case neg=>
    have t3:((br.length:Int)==1)=false:=by simp;omega
    have hpw:2 ^ m*2≤2 ^ n:=by
     have:=Nat.pow_le_pow_right (show 0 < 2 by omega) hmn
     rwa [Nat.pow_succ] at this
    have hgw:gf < w.heap.size:=nT hgb hbw;have hbw3:w.heap.size < w3.heap.size:=Blk.lt hbox3;have hg2:gf < w2.heap.size:=nT hgw (Nat.le_of_lt hsz2);go_wp2_with fail
    go_loopw [45] (fun i wr=>∃ k:Nat,k≤br.length∧i=.int .i64 k∧z1y wr gf wr.heap.size v (ps++(br.take k).flatMap (z9h v.l m path1))∧FrF gf w3.heap.size w3 wr) (fun i _=>br.length - (intOf i).toNat)
    case atStart=>
     refine ⟨0,nZ,rfl,?_,FrF.refl _ _ _⟩;rw[List.take_zero,List.flatMap_nil,List.append_nil];exact hfin3.raise (by omega) nL
    case round=>
     obtain ⟨k,hk,rfl,hfk,hfrk⟩:=hrel;by_cases hlt:k < br.length;case neg=>
      have hki:¬(k:Int) < (br.length:Int):=by omega
      have HX2:Hid (z1y wr gf wr.heap.size v (ps++z1e v.l n path at0)∧FrF gf base w wr):=hE ⟨by
       rw[←HX.out,←tlL (l:=br) (i:=k) (by omega)];exact hfk,hfr3.trans (hfrk.less (by omega))⟩
      clear hfk hfrk hst3 hfin3 hown3 hbox3;go_wp2_with fail
      simp only[Exit.jump];refine bodyPost_end (results_none rfl _ _ _) rfl ?_;exact ⟨rfl,HX2.out.1,HX2.out.2⟩
     case pos=>
      have hki:(k:Int) < (br.length:Int):=by omega
      have hownk:=hfrk.own hgb (z6t hown3) hown3;have hstk:=hfrk.own hg2 (z6t hst3) hst3;obtain ⟨b,off,hA3,lb,ho3,y0,y1,y2⟩:=hstk.rdn.2.elT hlt;have lbr:b < wr.heap.size:=lb.2;have HS:Hid (ps++(br.take (k+1)).flatMap (z9h v.l m path1)=(ps++(br.take k).flatMap (z9h v.l m path1))++z9h v.l m path1 br[k]):=hE (by rw[x3m hlt,List.append_assoc]);have hfl:=y8m v.l m path1 (br.take k);have hkl:(br.take k).length=k:=by rw[lTk];omega
      rw[hkl] at hfl;have hkm:k*2 ^ m≤1*2 ^ m:=Nat.mul_le_mul_right _ (by omega);rw[Nat.one_mul] at hkm;have hpsk:(ps++(br.take k).flatMap (z9h v.l m path1)).length+2 ^ m≤90000:=by rw[qL];omega
      have hp1:1≤2 ^ m:=Nat.one_le_two_pow;have hpsk1:(ps++(br.take k).flatMap (z9h v.l m path1)).length≤90000:=by omega
      have hb0:=hfrk.below (by omega) (by omega) hb3;have hsk3:w3.heap.size≤wr.heap.size:=hfrk.size;generalize ps++(br.take k).flatMap (z9h v.l m path1)=psk at *;generalize br[k]=s at *;subst hA3;obtain ⟨sel,sin,sout⟩:=s;dsimp only at *;clear hfl hkl hkm hpw hst3 hstk hfin3 hown3 hbox3 lb hfr3;obtain ⟨W0,hW0⟩:∃ W0,W0=wr.alloc (.cells #[.int .i64 sel,.int .i64 sin,.int .i64 sout] 85):=⟨_,rfl⟩
      have h0:Below wr.heap.size wr W0:=by rw[hW0];exact bQ.alloc nL _
      have hbz0:Blk W0 wr.heap.size 85 #[.int .i64 sel,.int .i64 sin,.int .i64 sout]:=by rw[hW0];exact Blk.new _ _ _ _ rfl
      have hown0:=hownk.now h0;have hfin0:=hfk.now h0;have hfr0:=hfrk.trans (FrF.of_below h0);have hbl0:=z00 hb0 hb0.size h0;have hrd0:RdS z1h W0 (Lt W0) A path1:=hown0.rdn.2.more fun b h=>h.2
      have HCL:=hE fun W' h=>z5n path1 A cap W' hspot (hrd0.now h) (by omega)
      have x0:=hbz0.cell 0;have x1:=hbz0.cell 1;have x2:=hbz0.cell 2;simp only[gqA,gqZ,gqS] at x0 x1 x2;have lx:=hbz0.lt;have HSS:Hid (∀ W,Below W0.heap.size W0 W→(fun w'=>w'.cell? ⟨wr.heap.size,0,none⟩=some (.int .i64 sel)∧w'.cell? ⟨wr.heap.size,1,none⟩=some (.int .i64 sin)∧w'.cell? ⟨wr.heap.size,2,none⟩=some (.int .i64 sout)∧Below W0.heap.size W0 w') W):=hE fun W h=>⟨(h.cell (p:=⟨wr.heap.size,0,none⟩) lx).trans x0,(h.cell (p:=⟨wr.heap.size,1,none⟩) lx).trans x1,(h.cell (p:=⟨wr.heap.size,2,none⟩) lx).trans x2,h⟩
      clear x0 x1 x2 hfk hfrk hownk hb0;go_wp2_with fail
      rw[←hW0];clear hW0;refine rgS 6 HSS fun hHeld=>?_
      refine tkM 2 [0,2] ?_;refine rd2 1 3 rfl rfl (fun K hK=>?_) fun K hK=>?_
      focus
       have hal8:Below W0.heap.size W0 W0.drew:=bQ.drew;go_simp
       go_at_call 34;refine (HCL.out _ (hal8)).mono ?_;rintro e wq ⟨cv,rfl,hcl,hqc⟩;obtain ⟨ca,cc,rfl⟩:=hcl.form;have hqb:Below W0.heap.size W0 wq:=z00 (hal8) (hal8).size hqc;go_wp2_with fail
       refine hK.out _ _ (HSS.out _ hqb) (fun hHeld=>?_);clear hK K;try simp only[Act.put,lsa,lsz,lss]
       refine rd1 3 rfl fun K hK=>?_
       go_simp;refine hK.out _ _ (HSS.out _ (hqb.alloc hqb.size _)) (fun hHeld=>?_);clear hK K;try simp only[Act.put,lsa,lsz,lss]
       have hcl6:=(hcl.lower (show W0.heap.size≤W0.drew.heap.size from nL)).alloc (.cells #[.int .i64 sel,.int .i64 sin,.int .i64 sout] 85);have h06:Below W0.heap.size W0 (wq.alloc (.cells #[.int .i64 sel,.int .i64 sin,.int .i64 sout] 85)):=hqb.alloc hqb.size _;have hbx6:Blk (wq.alloc (.cells #[.int .i64 sel,.int .i64 sin,.int .i64 sout] 85)) wq.heap.size 85 #[.int .i64 sel,.int .i64 sin,.int .i64 sout]:=Blk.new _ _ _ _ rfl;refine rd1 4 rfl fun K hK=>?_
       refine z0b (c:=z1h) rfl _ _ 52 rfl W0.heap.size 85 i0 _ 24 Tryz.underlying52 hi hy0 hy1 hy2 rfl (by decide) (fun _=>False) (.slice ca path1.length cc) path1 rfl (y2l hcl6 h06.size) (fun _ h=>h.elim) [.int .i64 sel,.int .i64 sin,.int .i64 sout] ⟨sel,sin,sout⟩ ⟨rfl,ho3⟩ (fun u hu=>by (simp at hu;rcases hu with rfl | rfl | rfl <;> rfl)) ⟨wq.heap.size,0,none⟩ 1 rfl (fun j u hj=>by (rw[z0g];exact z0f hbx6 j u hj)) (by omega) (by omega) ?_;intro v7 w7 hl7 hf7 _;obtain ⟨A7,c7,rfl⟩:=hl7.form;have hb7:Below W0.heap.size W0 w7:=hf7.keeps nL h06.size h06;refine hK.out _ _ (HSS.out _ hb7) (fun hHeld=>?_);clear hK K;try simp only[Act.put,lsa,lsz,lss]
       refine tkM 1 [5] ?_;refine wdn ?_;have hown7:=y2r hl7;clear hl7 hf7 hbx6 hcl6 h06 hHeld;clear hqb hqc hcl;have hfin7:=hfin0.now hb7;have hfr7:=hfr0.trans (FrF.of_below hb7);have hbl7:=z00 hbl0 hbl0.size hb7;have hrd7:RdS z1h w7 (Lt w7) A7 (path1++[⟨sel,sin,sout⟩]):=hown7.rdn.2.more fun b h=>h.2
       have hlw7:(path1++[(⟨sel,sin,sout⟩:Stp)]).length≤1000:=by simp;omega
       have hsp7:=z9o hown7;have HM:=hE (y49 W v gf wr.heap.size psk _ A7 c7 w7 hfin7 hr hbl7 hWs hsp7 hrd7 (by simp) hlw7 hpsk1);have hz70:=hb7.size;have hz0r:=h0.size;have hw37:w3.heap.size≤w7.heap.size:=by omega
       have hgW0:gf < W0.heap.size:=by omega
       clear hfin7 hrd7 hlw7 hsp7 hown0 hfin0 hrd0 hbz0 HSS HCL lx;rw[show (path1++[(⟨sel,sin,sout⟩:Stp)]).length=path1.length+1 by rw[qL];rfl] at HM;go_wp2_with fail
       refine HM.out.mono ?_;rintro e w8 ⟨rfl,hp1,hp2,hfr8⟩;have hfr8':=hfr7.trans (hfr8.less hw37);have hz8:=hfr8.size;have hown8:=hfr8.own hgW0 (z6t hown7) hown7;clear HM
       cases hpf:z4v v.l (path1++[(⟨sel,sin,sout⟩:Stp)]) with
       | none=>
        have HPF:=hE (hp2 hpf);have HFO:=hE (y3p (m:=m) hpf);dsimp only [y7v];clear hp1 hp2 hown8 hpf;obtain ⟨W9,hW9⟩:∃ W9,W9=w8.alloc (.cells #[.int .i64 (-1),.int .i64 0] 90):=⟨_,rfl⟩
        have h9:Below w8.heap.size w8 W9:=by rw[hW9];exact bQ.alloc nL _
        have hfr9:=hfr8'.trans (FrF.of_below h9);clear hfr8';go_wp2_with fail
        rw[←hW9];clear hW9;go_roundw
        case rel=>
         have hk1:k+1≤br.length:=hlt;refine ⟨k+1,hk1,by go_num,?_,hfr9⟩;rw[HS.out,HFO.out];exact (HPF.out.now h9).raise h9.size nL
        case measure=>simp[intOf];omega
       | some on=>
        have HPF:=hE (hp1 _ hpf);have HFO:=hE (y3q (m:=m) hpf);have hon:=y4a hr hpf;dsimp only [y7v];clear hp1 hp2 hpf;obtain ⟨W9,hW9⟩:∃ W9,W9=w8.alloc (.cells #[.int .i64 on.el,.int .i64 on.sd] 90):=⟨_,rfl⟩
        have h9:Below w8.heap.size w8 W9:=by rw[hW9];exact bQ.alloc nL _
        have hbz9:Blk W9 w8.heap.size 90 #[.int .i64 on.el,.int .i64 on.sd]:=by rw[hW9];exact Blk.new _ _ _ _ rfl
        have hfr9:=hfr8'.trans (FrF.of_below h9);have hown9:=hown8.now h9;have hz9:=h9.size;have hbl9:=hfr9.below (by omega) (by omega) hb3;clear hfr8' hown8;by_cases hpos:0≤on.el;case neg=>
         have t4:decide (0≤on.el)=false:=by simpa using hpos
         have hneg:on.el < 0:=by omega
         clear hbz9;go_wp2_with fail
         rw[←hW9];clear hW9;go_roundw
         case rel=>
          have hk1:k+1≤br.length:=hlt;refine ⟨k+1,hk1,by go_num,?_,hfr9⟩;have hrz:wr.heap.size≤W9.heap.size:=by omega
          rw[HS.out,HFO.out,z8d hneg,List.append_nil];exact (HPF.out.now h9).raise hrz nL
         case measure=>simp[intOf];omega
        case pos=>
         have t4:decide (0≤on.el)=true:=by simpa using hpos
         have HI:=hE (IH m hmn wr.heap.size W0.heap.size psk (path1++[⟨sel,sin,sout⟩]) A7 c7 on W9 (by rw[qL];simpa using hm12) (HPF.out.now h9) hbl9 hgW0 hz0r (by omega) hown9 hon hpsk);rw[show (path1++[(⟨sel,sin,sout⟩:Stp)]).length=path1.length+1 by rw[qL];rfl] at HI;clear hbz9 hbl9 hown9;go_wp2_with fail
         rw[←hW9];clear hW9;refine HI.out.mono ?_;rintro e w10 ⟨rfl,hk10,hfr10⟩;have hfr11:=hfr9.trans (hfr10.less (by omega));go_wp2_with fail
         go_roundw
         case rel=>
          have hk1:k+1≤br.length:=hlt;refine ⟨k+1,hk1,by go_num,?_,hfr11⟩;rw[HS.out,HFO.out];exact hk10
         case measure=>simp[intOf];omega
      focus
       go_simp;refine hK.out _ _ (HSS.out _ (bQ.drew.alloc nL _)) (fun hHeld=>?_);clear hK K;try simp only[Act.put,lsa,lsz,lss]
       have hal9:Below W0.heap.size W0 (W0.drew.alloc (.cells #[.int .i64 sel,.int .i64 sin,.int .i64 sout] 85)):=bQ.drew.alloc nL _;have hbz9:Blk (W0.drew.alloc (.cells #[.int .i64 sel,.int .i64 sin,.int .i64 sout] 85)) W0.heap.size 85 #[.int .i64 sel,.int .i64 sin,.int .i64 sout]:=Blk.new _ _ _ _ rfl;refine rd1 1 rfl fun K hK=>?_
       go_simp;go_at_call 34
       refine (HCL.out _ (hal9)).mono ?_;rintro e wq ⟨cv,rfl,hcl,hqc⟩;obtain ⟨ca,cc,rfl⟩:=hcl.form;have hqb:Below W0.heap.size W0 wq:=z00 (hal9) (hal9).size hqc;go_wp2_with fail
       refine hK.out _ _ (HSS.out _ hqb) (fun hHeld=>?_);clear hK K;try simp only[Act.put,lsa,lsz,lss]
       have hcl6:=hcl.lower hal9.size;have h06:Below W0.heap.size W0 wq:=hqb;have hbx6:Blk wq W0.heap.size 85 #[.int .i64 sel,.int .i64 sin,.int .i64 sout]:=hbz9.now hqc;refine rd1 4 rfl fun K hK=>?_
       refine z0b (c:=z1h) rfl _ _ 52 rfl W0.heap.size 85 i0 _ 24 Tryz.underlying52 hi hy0 hy1 hy2 rfl (by decide) (fun _=>False) (.slice ca path1.length cc) path1 rfl (y2l hcl6 h06.size) (fun _ h=>h.elim) [.int .i64 sel,.int .i64 sin,.int .i64 sout] ⟨sel,sin,sout⟩ ⟨rfl,ho3⟩ (fun u hu=>by (simp at hu;rcases hu with rfl | rfl | rfl <;> rfl)) ⟨W0.heap.size,0,none⟩ 1 rfl (fun j u hj=>by (rw[z0g];exact z0f hbx6 j u hj)) (by omega) (by omega) ?_;intro v7 w7 hl7 hf7 _;obtain ⟨A7,c7,rfl⟩:=hl7.form;have hb7:Below W0.heap.size W0 w7:=hf7.keeps nL h06.size h06;refine hK.out _ _ (HSS.out _ hb7) (fun hHeld=>?_);clear hK K;try simp only[Act.put,lsa,lsz,lss]
       refine tkM 1 [5] ?_;refine wdn ?_;have hown7:=y2r hl7;clear hl7 hf7 hbx6 hcl6 h06 hHeld;clear hqb hqc hcl hbz9 hal9;have hfin7:=hfin0.now hb7;have hfr7:=hfr0.trans (FrF.of_below hb7);have hbl7:=z00 hbl0 hbl0.size hb7;have hrd7:RdS z1h w7 (Lt w7) A7 (path1++[⟨sel,sin,sout⟩]):=hown7.rdn.2.more fun b h=>h.2
       have hlw7:(path1++[(⟨sel,sin,sout⟩:Stp)]).length≤1000:=by simp;omega
       have hsp7:=z9o hown7;have HM:=hE (y49 W v gf wr.heap.size psk _ A7 c7 w7 hfin7 hr hbl7 hWs hsp7 hrd7 (by simp) hlw7 hpsk1);have hz70:=hb7.size;have hz0r:=h0.size;have hw37:w3.heap.size≤w7.heap.size:=by omega
       have hgW0:gf < W0.heap.size:=by omega
       clear hfin7 hrd7 hlw7 hsp7 hown0 hfin0 hrd0 hbz0 HSS HCL lx;rw[show (path1++[(⟨sel,sin,sout⟩:Stp)]).length=path1.length+1 by rw[qL];rfl] at HM;go_wp2_with fail
       refine HM.out.mono ?_;rintro e w8 ⟨rfl,hp1,hp2,hfr8⟩;have hfr8':=hfr7.trans (hfr8.less hw37);have hz8:=hfr8.size;have hown8:=hfr8.own hgW0 (z6t hown7) hown7;clear HM
       cases hpf:z4v v.l (path1++[(⟨sel,sin,sout⟩:Stp)]) with
       | none=>
        have HPF:=hE (hp2 hpf);have HFO:=hE (y3p (m:=m) hpf);dsimp only [y7v];clear hp1 hp2 hown8 hpf;obtain ⟨W9,hW9⟩:∃ W9,W9=w8.alloc (.cells #[.int .i64 (-1),.int .i64 0] 90):=⟨_,rfl⟩
        have h9:Below w8.heap.size w8 W9:=by rw[hW9];exact bQ.alloc nL _
        have hfr9:=hfr8'.trans (FrF.of_below h9);clear hfr8';go_wp2_with fail
        rw[←hW9];clear hW9;go_roundw
        case rel=>
         have hk1:k+1≤br.length:=hlt;refine ⟨k+1,hk1,by go_num,?_,hfr9⟩;rw[HS.out,HFO.out];exact (HPF.out.now h9).raise h9.size nL
        case measure=>simp[intOf];omega
       | some on=>
        have HPF:=hE (hp1 _ hpf);have HFO:=hE (y3q (m:=m) hpf);have hon:=y4a hr hpf;dsimp only [y7v];clear hp1 hp2 hpf;obtain ⟨W9,hW9⟩:∃ W9,W9=w8.alloc (.cells #[.int .i64 on.el,.int .i64 on.sd] 90):=⟨_,rfl⟩
        have h9:Below w8.heap.size w8 W9:=by rw[hW9];exact bQ.alloc nL _
        have hbz9:Blk W9 w8.heap.size 90 #[.int .i64 on.el,.int .i64 on.sd]:=by rw[hW9];exact Blk.new _ _ _ _ rfl
        have hfr9:=hfr8'.trans (FrF.of_below h9);have hown9:=hown8.now h9;have hz9:=h9.size;have hbl9:=hfr9.below (by omega) (by omega) hb3;clear hfr8' hown8;by_cases hpos:0≤on.el;case neg=>
         have t4:decide (0≤on.el)=false:=by simpa using hpos
         have hneg:on.el < 0:=by omega
         clear hbz9;go_wp2_with fail
         rw[←hW9];clear hW9;go_roundw
         case rel=>
          have hk1:k+1≤br.length:=hlt;refine ⟨k+1,hk1,by go_num,?_,hfr9⟩;have hrz:wr.heap.size≤W9.heap.size:=by omega
          rw[HS.out,HFO.out,z8d hneg,List.append_nil];exact (HPF.out.now h9).raise hrz nL
         case measure=>simp[intOf];omega
        case pos=>
         have t4:decide (0≤on.el)=true:=by simpa using hpos
         have HI:=hE (IH m hmn wr.heap.size W0.heap.size psk (path1++[⟨sel,sin,sout⟩]) A7 c7 on W9 (by rw[qL];simpa using hm12) (HPF.out.now h9) hbl9 hgW0 hz0r (by omega) hown9 hon hpsk);rw[show (path1++[(⟨sel,sin,sout⟩:Stp)]).length=path1.length+1 by rw[qL];rfl] at HI;clear hbz9 hbl9 hown9;go_wp2_with fail
         rw[←hW9];clear hW9;refine HI.out.mono ?_;rintro e w10 ⟨rfl,hk10,hfr10⟩;have hfr11:=hfr9.trans (hfr10.less (by omega));go_wp2_with fail
         go_roundw
         case rel=>
          have hk1:k+1≤br.length:=hlt;refine ⟨k+1,hk1,by go_num,?_,hfr11⟩;rw[HS.out,HFO.out];exact hk10
         case measure=>simp[intOf];omega
end Go.Proofs.YtpenlfedkacglaaGreatDoor
namespace Go.Proofs.YtpenlfedkacglaaGreatDoor
open Go.RowKit
attribute [local go_sem] z05 z07 z01 z02
attribute [-go_sem] run_equalIn_agg
theorem y6j (w:World) (e:TypeId) (n:Nat) (hn:n≤100000):(w.drew.alloc (.cells (Builtin.zeroCells #[.int .i64 0,.int .i64 0] n++Builtin.zeroCells #[.int .i64 0,.int .i64 0] (grownCap w n 0 e - n)) e)).ownsRow w.heap.size e 2 (.slice (some ⟨w.heap.size,0,none⟩) 0 (grownCap w n 0 e)) 0 []:=by
 have h1:=grownCap_ge w n 0 e;have h2:=grownCap_le_maxLen w n 0 e (by unfold maxLen;omega);refine ⟨by simp,Or.inr ⟨w.heap.size,_,_,rfl,nL,heap_alloc_new _ _,nZ,h2,?_,by simp⟩⟩;simp[size_zeroCells];omega
theorem y76 (n:Nat) (w:World) (hn:n≤100000) :
  Calls Tryz.prog 150 #[.slice none 0 0,.int .i64 n] w fun e w'=>∃ v,e=.returned v∧w'.ownsRow w.heap.size 78 2 v 0 []∧Below w.heap.size w w':=by
 obtain ⟨i0,hi0,hz0,hz1,hz2⟩:=info_parts z3k;by_cases h0:n=0
 ·subst h0;go_enter Tryz.func150,Tryz.ntmps150
  go_wp2_with fail;go_ret
  exact ⟨_,rfl,World.ownsRow_nil _ _ _ _,bQ⟩
 ·have h1:¬(n:Int) < 0:=by omega
  have h2:(0:Int) < (n:Int):=by omega
  have hrun:=Lib.run_append_nil_zeros (P:=Tryz.prog) w 53 3 53 78 i0 (.agg #[.int .i64 0,.int .i64 0]) .i64 .i64 Tryz.underlying53 Tryz.underlying3 hi0 hz0 n (by omega) (by omega) (by omega) (by rw[hz2];omega);have HO:=hE (y6j w 78 n hn);have HB:Hid (Below w.heap.size w (w.drew.alloc (.cells (Builtin.zeroCells #[.int .i64 0,.int .i64 0] n++Builtin.zeroCells #[.int .i64 0,.int .i64 0] (grownCap w n 0 78 - n)) 78))):=hE ((bQ.drew).alloc nL _);have HR:=hE hrun;clear hrun h0;go_enter Tryz.func150,Tryz.ntmps150
  go_wp2_with (at_builtin;go_loud (refine Lib.wpList_append_run _ rfl _ _ _ _ rfl _ _ (by rfl) (by rfl) _ _ HR.out ?_))
  go_ret;exact ⟨_,rfl,HO.out,HB.out⟩
theorem x33 {w:World} {S:Nat→Prop} {A:Option Addr} {ls:List (List Stg)} (h:RdS (cL z2x) w S A ls) {k:Nat} (hk:k < ls.length):∃ b off A' cap',A=some ⟨b,off,none⟩∧w.cell? ⟨b,off+k,none⟩=some (.slice A' ls[k].length cap')∧(ls[k].length≤maxLen∧ls[k].length≤cap')∧RdS z2x w S A' ls[k]:=by
 obtain ⟨b,off,h1,h2⟩:=h.pick rfl;obtain ⟨u,h3,h4⟩:=h2 k _ (gqE hk);obtain ⟨A',cap',rfl,h5,h6⟩:=z7f h3;exact ⟨b,off,A',cap',(h1 (by omega)).1,h4,h5,h6⟩
theorem y79 (ys:List Value) (x:Stg) {w:World} {S:Nat→Prop} (h:z2x.rd w S ys x):∀ u∈ys,u.oneCell' = true:=by
 obtain ⟨rfl,_⟩:=h;intro u hu;simp at hu;rcases hu with rfl | rfl <;> rfl
def z2q (ls:List (List Stg)) (k:Nat):Nat:=((ls.take k).map List.length).sum
theorem z5r {ls:List (List Stg)} {k:Nat} (h:k < ls.length):z2q ls (k+1)=z2q ls k+ls[k].length:=by
 unfold z2q;rw[tqS h,List.map_append,List.sum_append];simp
theorem y2m (ls:List (List Stg)) (b:Nat) (h:∀ l∈ls,l.length≤b):∀ k,k≤ls.length→z2q ls k≤k*b
 | 0,_=>by simp[z2q]
 | k+1,hk=>by
  have:=y2m ls b h k (by omega);have h2:=h _ (uE (show k < ls.length by omega));rw[z5r (by omega),Nat.succ_mul];omega
def z2m (ls:List (List Stg)) (k:Nat):List Stg:=(ls.take k).flatten
theorem y3n {ls:List (List Stg)} {k:Nat} (h:k < ls.length):z2m ls (k+1)=z2m ls k++ls[k]:=by
 unfold z2m;rw[tqS h,List.flatten_append];simp
theorem y59 (ls:List (List Stg)) (k:Nat):(z2m ls k).length=z2q ls k:=by unfold z2m z2q;rw[List.length_flatten]
theorem y57 {ls:List (List Stg)} {k:Nat} (h:¬k < ls.length):z2m ls k=ls.flatten:=by unfold z2m;rw[tlL (by omega)]
theorem y3i (ls:List (List Stg)) (A:Option Addr) (cap:Nat) (w:World) (hr:RdS (cL z2x) w (Lt w) A ls) (hl:ls.length≤3) (hls:∀ l∈ls,l.length≤30000) :
  Calls Tryz.prog 112 #[.slice A ls.length cap] w fun e w'=>∃ v,e=.returned v∧y1e z2x w' w.heap.size 78 v ls.flatten∧Below w.heap.size w w':=by
 obtain ⟨i0,hi0,hz0,hz1,hz2⟩:=info_parts z3k;have HS:=hE (y2m ls 30000 hls);have HL:=hE hls;clear hls;go_enter Tryz.func112,Tryz.ntmps112
 go_wp2_with fail;go_loopw [3,11] (fun s n wr=>∃ k:Nat,k≤ls.length∧n=.int .i64 k∧s=.int .i64 (z2q ls k:Nat)∧Hid (wr=w)) (fun _ n _=>ls.length - (intOf n).toNat)
 case atStart=>exact ⟨0,nZ,rfl,rfl,hE rfl⟩
 case round=>
  obtain ⟨k,hk,rfl,rfl,HW⟩:=hrel;have hw:=HW.out.symm;subst hw;by_cases hlt:k < ls.length
  ·have hki:(k:Int) < (ls.length:Int):=by omega
   obtain ⟨b,off,A',c',rfl,y0,hm,hr'⟩:=x33 hr hlt;have h1:=HS.out k hk;have h2:=HS.out (k+1) hlt;have h3:=z5r hlt;have hm1:=hm.1;generalize ls[k]=q at *;have HQ:Hid (((z2q ls k:Nat):Int)+(q.length:Int)=((z2q ls (k+1):Nat):Int)):=hE (by omega);clear h3 hm;obtain ⟨m1,hm1e⟩:∃ m,z2q ls (k+1)=m:=⟨_,rfl⟩
   rw[hm1e] at h2 HQ;have HM1:=hE hm1e;clear hm1e;generalize z2q ls k=m0 at *;have hm0:(m0:Int)≤90000:=by omega
   have hq0:(q.length:Int)≤100000:=by have:=HQ.out;omega
   have hneg:¬((m0:Int)+(q.length:Int) < 0):=by omega
   clear h1 h2;go_wp2_with fail
   go_round
   case rel=>exact ⟨k+1,by omega,by go_num,by rw[HM1.out,←HQ.out],hE (by first | rfl | trivial)⟩
   case measure=>simp[intOf];omega
  ·have hsl:=HS.out k hk;obtain ⟨m0,hm0⟩:∃ m,z2q ls k=m:=⟨_,rfl⟩
   rw[hm0] at hsl ⊢;have HM:Hid (m0=z2q ls k):=hE hm0.symm;have HKL:Hid (k=ls.length):=hE (by omega);have HG:=hE (y76 m0 w (by omega));clear hm0 hsl;go_wp2_with fail
   refine HG.out.mono ?_;rintro e w1 ⟨v1,rfl,hown1,hb1⟩;have hlow1:y1e z2x w1 w.heap.size 78 v1 (z2m ls 0):=⟨[],hown1,rfl,hb1.size⟩
   have hr1:RdS (cL z2x) w1 (fun b=>b < w.heap.size) A ls:=hr.keep fun p hp=>hb1.cell hp
   clear hown1 HG;go_wp2_with fail
   go_loopw [6,27] (fun v n wr=>∃ j:Nat,j≤ls.length∧n=.int .i64 j∧y1e z2x wr w.heap.size 78 v (z2m ls j)∧Below w.heap.size w1 wr) (fun _ n _=>ls.length - (intOf n).toNat)
   case atStart=>exact ⟨0,nZ,rfl,hlow1,bQ⟩
   case round=>
    obtain ⟨j,hj,rfl,hlow,hb2⟩:=hrel;clear hlow1;by_cases hltj:j < ls.length
    ·have hji:(j:Int) < (ls.length:Int):=by omega
     obtain ⟨b,off,A',c',hA,y0,hm,hr'⟩:=x33 (hr1.low hb2) hltj;have HT:=hE (y3n hltj);have hq1:=HL.out _ (uE hltj);have hq2:=HS.out (j+1) hltj;have hq5:=z5r hltj;have hq3:=y59 ls j;have hq4:(z2m ls j).length+ls[j].length≤90000:=by omega
     rw[hA];clear hA hq2 hq3 hm hq5;generalize ls[j]=q at *;generalize z2m ls j=acc at *;go_wp2_with (at_builtin;go_loud (refine z3e (c:=z2x) _ rfl _ _ 53 rfl w.heap.size 78 i0 _ 16 Tryz.underlying53 hi0 hz0 hz1 hz2 rfl (by decide) _ acc (by rfl) hlow A' c' q (by rfl) hr' (fun ys x h=>y79 ys x h) (by omega) (by omega) ?_);intro v5 w5 hlow5 hb5)
     go_roundw
     case rel=>exact ⟨j+1,by omega,by go_num,by rw[HT.out];exact hlow5,hb2.trans hb5⟩
     case measure=>simp[intOf];omega
    ·have HE:=hE (y57 hltj);rw[HE.out] at hlow;have HO:=hE hlow;have HB:=hE (hb1.trans hb2);clear hlow HE;go_wp2_with fail
     go_ret;exact ⟨_,rfl,HO.out,HB.out⟩
theorem y6k (w:World) (e:TypeId) (n:Nat) (hn:n≤100000):(w.drew.alloc (.cells (Builtin.zeroCells #[.int .i64 0,.int .i64 0,.int .i64 0] n++Builtin.zeroCells #[.int .i64 0,.int .i64 0,.int .i64 0] (grownCap w n 0 e - n)) e)).ownsRow w.heap.size e 3 (.slice (some ⟨w.heap.size,0,none⟩) 0 (grownCap w n 0 e)) 0 []:=by
 have h1:=grownCap_ge w n 0 e;have h2:=grownCap_le_maxLen w n 0 e (by unfold maxLen;omega);refine ⟨by simp,Or.inr ⟨w.heap.size,_,_,rfl,nL,heap_alloc_new _ _,nZ,h2,?_,by simp⟩⟩;simp[size_zeroCells];omega
theorem y77 (n:Nat) (w:World) (hn:n≤100000) :
  Calls Tryz.prog 83 #[.slice none 0 0,.int .i64 n] w fun e w'=>∃ v,e=.returned v∧w'.ownsRow w.heap.size 85 3 v 0 []∧Below w.heap.size w w':=by
 obtain ⟨i0,hi0,hz0,hz1,hz2⟩:=info_parts z3d;by_cases h0:n=0
 ·subst h0;go_enter Tryz.func83,Tryz.ntmps83
  go_wp2_with fail;go_ret
  exact ⟨_,rfl,World.ownsRow_nil _ _ _ _,bQ⟩
 ·have h1:¬(n:Int) < 0:=by omega
  have h2:(0:Int) < (n:Int):=by omega
  have hrun:=Lib.run_append_nil_zeros (P:=Tryz.prog) w 52 3 52 85 i0 (.agg #[.int .i64 0,.int .i64 0,.int .i64 0]) .i64 .i64 Tryz.underlying52 Tryz.underlying3 hi0 hz0 n (by omega) (by omega) (by omega) (by rw[hz2];omega);have HO:=hE (y6k w 85 n hn);have HB:Hid (Below w.heap.size w (w.drew.alloc (.cells (Builtin.zeroCells #[.int .i64 0,.int .i64 0,.int .i64 0] n++Builtin.zeroCells #[.int .i64 0,.int .i64 0,.int .i64 0] (grownCap w n 0 85 - n)) 85))):=hE ((bQ.drew).alloc nL _);have HR:=hE hrun;clear hrun h0;go_enter Tryz.func83,Tryz.ntmps83
  go_wp2_with (at_builtin;go_loud (refine Lib.wpList_append_run _ rfl _ _ _ _ rfl _ _ (by rfl) (by rfl) _ _ HR.out ?_))
  go_ret;exact ⟨_,rfl,HO.out,HB.out⟩
theorem x35 {w:World} {S:Nat→Prop} {A:Option Addr} {ls:List (List Stp)} (h:RdS (cL z1h) w S A ls) {k:Nat} (hk:k < ls.length):∃ b off A' cap',A=some ⟨b,off,none⟩∧w.cell? ⟨b,off+k,none⟩=some (.slice A' ls[k].length cap')∧(ls[k].length≤maxLen∧ls[k].length≤cap')∧RdS z1h w S A' ls[k]:=by
 obtain ⟨b,off,h1,h2⟩:=h.pick rfl;obtain ⟨u,h3,h4⟩:=h2 k _ (gqE hk);obtain ⟨A',cap',rfl,h5,h6⟩:=z7f h3;exact ⟨b,off,A',cap',(h1 (by omega)).1,h4,h5,h6⟩
theorem y7a (ys:List Value) (x:Stp) {w:World} {S:Nat→Prop} (h:z1h.rd w S ys x):∀ u∈ys,u.oneCell' = true:=by
 obtain ⟨rfl,_⟩:=h;intro u hu;simp at hu;rcases hu with rfl | rfl | rfl <;> rfl
def z2r (ls:List (List Stp)) (k:Nat):Nat:=((ls.take k).map List.length).sum
theorem z5s {ls:List (List Stp)} {k:Nat} (h:k < ls.length):z2r ls (k+1)=z2r ls k+ls[k].length:=by
 unfold z2r;rw[tqS h,List.map_append,List.sum_append];simp
theorem y2n (ls:List (List Stp)) (b:Nat) (h:∀ l∈ls,l.length≤b):∀ k,k≤ls.length→z2r ls k≤k*b
 | 0,_=>by simp[z2r]
 | k+1,hk=>by
  have:=y2n ls b h k (by omega);have h2:=h _ (uE (show k < ls.length by omega));rw[z5s (by omega),Nat.succ_mul];omega
def z2o (ls:List (List Stp)) (k:Nat):List Stp:=(ls.take k).flatten
theorem y3o {ls:List (List Stp)} {k:Nat} (h:k < ls.length):z2o ls (k+1)=z2o ls k++ls[k]:=by
 unfold z2o;rw[tqS h,List.flatten_append];simp
theorem y5a (ls:List (List Stp)) (k:Nat):(z2o ls k).length=z2r ls k:=by unfold z2o z2r;rw[List.length_flatten]
theorem y58 {ls:List (List Stp)} {k:Nat} (h:¬k < ls.length):z2o ls k=ls.flatten:=by unfold z2o;rw[tlL (by omega)]
theorem y3j (ls:List (List Stp)) (A:Option Addr) (cap:Nat) (w:World) (hr:RdS (cL z1h) w (Lt w) A ls) (hl:ls.length≤3) (hls:∀ l∈ls,l.length≤30000) :
  Calls Tryz.prog 36 #[.slice A ls.length cap] w fun e w'=>∃ v,e=.returned v∧y1e z1h w' w.heap.size 85 v ls.flatten∧Below w.heap.size w w':=by
 obtain ⟨i0,hi0,hz0,hz1,hz2⟩:=info_parts z3d;have HS:=hE (y2n ls 30000 hls);have HL:=hE hls;clear hls;go_enter Tryz.func36,Tryz.ntmps36
 go_wp2_with fail;go_loopw [3,11] (fun s n wr=>∃ k:Nat,k≤ls.length∧n=.int .i64 k∧s=.int .i64 (z2r ls k:Nat)∧Hid (wr=w)) (fun _ n _=>ls.length - (intOf n).toNat)
 case atStart=>exact ⟨0,nZ,rfl,rfl,hE rfl⟩
 case round=>
  obtain ⟨k,hk,rfl,rfl,HW⟩:=hrel;have hw:=HW.out.symm;subst hw;by_cases hlt:k < ls.length
  ·have hki:(k:Int) < (ls.length:Int):=by omega
   obtain ⟨b,off,A',c',rfl,y0,hm,hr'⟩:=x35 hr hlt;have h1:=HS.out k hk;have h2:=HS.out (k+1) hlt;have h3:=z5s hlt;have hm1:=hm.1;generalize ls[k]=q at *;have HQ:Hid (((z2r ls k:Nat):Int)+(q.length:Int)=((z2r ls (k+1):Nat):Int)):=hE (by omega);clear h3 hm;obtain ⟨m1,hm1e⟩:∃ m,z2r ls (k+1)=m:=⟨_,rfl⟩
   rw[hm1e] at h2 HQ;have HM1:=hE hm1e;clear hm1e;generalize z2r ls k=m0 at *;have hm0:(m0:Int)≤90000:=by omega
   have hq0:(q.length:Int)≤100000:=by have:=HQ.out;omega
   have hneg:¬((m0:Int)+(q.length:Int) < 0):=by omega
   clear h1 h2;go_wp2_with fail
   go_round
   case rel=>exact ⟨k+1,by omega,by go_num,by rw[HM1.out,←HQ.out],hE (by first | rfl | trivial)⟩
   case measure=>simp[intOf];omega
  ·have hsl:=HS.out k hk;obtain ⟨m0,hm0⟩:∃ m,z2r ls k=m:=⟨_,rfl⟩
   rw[hm0] at hsl ⊢;have HM:Hid (m0=z2r ls k):=hE hm0.symm;have HKL:Hid (k=ls.length):=hE (by omega);have HG:=hE (y77 m0 w (by omega));clear hm0 hsl;go_wp2_with fail
   refine HG.out.mono ?_;rintro e w1 ⟨v1,rfl,hown1,hb1⟩;have hlow1:y1e z1h w1 w.heap.size 85 v1 (z2o ls 0):=⟨[],hown1,rfl,hb1.size⟩
   have hr1:RdS (cL z1h) w1 (fun b=>b < w.heap.size) A ls:=hr.keep fun p hp=>hb1.cell hp
   clear hown1 HG;go_wp2_with fail
   go_loopw [6,27] (fun v n wr=>∃ j:Nat,j≤ls.length∧n=.int .i64 j∧y1e z1h wr w.heap.size 85 v (z2o ls j)∧Below w.heap.size w1 wr) (fun _ n _=>ls.length - (intOf n).toNat)
   case atStart=>exact ⟨0,nZ,rfl,hlow1,bQ⟩
   case round=>
    obtain ⟨j,hj,rfl,hlow,hb2⟩:=hrel;clear hlow1;by_cases hltj:j < ls.length
    ·have hji:(j:Int) < (ls.length:Int):=by omega
     obtain ⟨b,off,A',c',hA,y0,hm,hr'⟩:=x35 (hr1.low hb2) hltj;have HT:=hE (y3o hltj);have hq1:=HL.out _ (uE hltj);have hq2:=HS.out (j+1) hltj;have hq5:=z5s hltj;have hq3:=y5a ls j;have hq4:(z2o ls j).length+ls[j].length≤90000:=by omega
     rw[hA];clear hA hq2 hq3 hm hq5;generalize ls[j]=q at *;generalize z2o ls j=acc at *;go_wp2_with (at_builtin;go_loud (refine z3e (c:=z1h) _ rfl _ _ 52 rfl w.heap.size 85 i0 _ 24 Tryz.underlying52 hi0 hz0 hz1 hz2 rfl (by decide) _ acc (by rfl) hlow A' c' q (by rfl) hr' (fun ys x h=>y7a ys x h) (by omega) (by omega) ?_);intro v5 w5 hlow5 hb5)
     go_roundw
     case rel=>exact ⟨j+1,by omega,by go_num,by rw[HT.out];exact hlow5,hb2.trans hb5⟩
     case measure=>simp[intOf];omega
    ·have HE:=hE (y58 hltj);rw[HE.out] at hlow;have HO:=hE hlow;have HB:=hE (hb1.trans hb2);clear hlow HE;go_wp2_with fail
     go_ret;exact ⟨_,rfl,HO.out,HB.out⟩
theorem z5e {α:Type} {c:Cod α} (hc:Flat c) {w:World} {base:Nat} {e:TypeId} {v:Value} {l:List α} (h:y1e c w base e v l):z09 c w base e v l 0:=by
 obtain ⟨xs,h1,h2,_⟩:=h;exact ⟨xs,h1,RdC.x0n hc h2,nZ⟩
theorem x1r {α:Type} {c:Cod α} {w:World} {S:Nat→Prop} {g:Nat} {T:TypeId} {A1 A2 A3:Option Addr} {l1 l2 l3:List α} {c1 c2 c3:Nat} (hb:Blk w g T #[.slice A1 l1.length c1,.slice A2 l2.length c2,.slice A3 l3.length c3]) (hg:S g)
  (n1:l1.length≤maxLen∧l1.length≤c1) (n2:l2.length≤maxLen∧l2.length≤c2) (n3:l3.length≤maxLen∧l3.length≤c3) (h1:RdS c w S A1 l1) (h2:RdS c w S A2 l2) (h3:RdS c w S A3 l3):RdS (cL c) w S (some ⟨g,0,none⟩) [l1,l2,l3]:=by
 intro _;refine ⟨g,0,rfl,hg,fun i x hx=>?_⟩
 match i,hx with
 | 0,hx=>obtain rfl:=sJ hx;exact ⟨[.slice A1 l1.length c1],⟨A1,c1,rfl,n1,h1⟩,fun j u hu=>by (cases j with | zero=>obtain rfl:=sJ hu;exact hb.cell 0 | succ j=>simp at hu)⟩
 | 1,hx=>obtain rfl:=sJ hx;exact ⟨[.slice A2 l2.length c2],⟨A2,c2,rfl,n2,h2⟩,fun j u hu=>by (cases j with | zero=>obtain rfl:=sJ hu;exact hb.cell 1 | succ j=>simp at hu)⟩
 | 2,hx=>obtain rfl:=sJ hx;exact ⟨[.slice A3 l3.length c3],⟨A3,c3,rfl,n3,h3⟩,fun j u hu=>by (cases j with | zero=>obtain rfl:=sJ hu;exact hb.cell 2 | succ j=>simp at hu)⟩
theorem y9s {α:Type} {c:Cod α} {w:World} {S:Nat→Prop} {g:Nat} {T:TypeId} {A1 A2:Option Addr} {l1 l2:List α} {c1 c2:Nat} (hb:Blk w g T #[.slice A1 l1.length c1,.slice A2 l2.length c2]) (hg:S g)
  (n1:l1.length≤maxLen∧l1.length≤c1) (n2:l2.length≤maxLen∧l2.length≤c2) (h1:RdS c w S A1 l1) (h2:RdS c w S A2 l2):RdS (cL c) w S (some ⟨g,0,none⟩) [l1,l2]:=by
 intro _;refine ⟨g,0,rfl,hg,fun i x hx=>?_⟩
 match i,hx with
 | 0,hx=>obtain rfl:=sJ hx;exact ⟨[.slice A1 l1.length c1],⟨A1,c1,rfl,n1,h1⟩,fun j u hu=>by (cases j with | zero=>obtain rfl:=sJ hu;exact hb.cell 0 | succ j=>simp at hu)⟩
 | 1,hx=>obtain rfl:=sJ hx;exact ⟨[.slice A2 l2.length c2],⟨A2,c2,rfl,n2,h2⟩,fun j u hu=>by (cases j with | zero=>obtain rfl:=sJ hu;exact hb.cell 1 | succ j=>simp at hu)⟩
theorem x2w {α:Type} [DecidableEq α] {l:List α} (h:0 < l.length):z0v (l.take (0+1))=z0v (l.take 0)++[l[0]]:=by
 cases l with
 | nil=>simp at h
 | cons a t=>rfl
theorem z3y (v:z2v) (w:World) (hr:RvR w (Lt w) v) (h2:v.r.pts.length≤30000) (h5:v.r.opts.length≤30000) (h7:v.r.flk.length≤30000):Calls Tryz.prog 70 #[.agg (z0e v)] w (y35 z2x 78 w (z1t v.r)):=by
 obtain ⟨i0,hi,hz0,hz1,hz2⟩:=info_parts z3k;obtain ⟨W2,hW2⟩:∃ W,W=(w.alloc (.cells (z0e v) 56)).alloc (.cells #[.slice v.A2 v.r.pts.length v.c2,.slice v.A5 v.r.opts.length v.c5,.slice v.A7 v.r.flk.length v.c7] 53):=⟨_,rfl⟩
 have hb2:Below w.heap.size w W2:=by rw[hW2];exact (bQ.alloc nL _).alloc (by simp) _
 have hx1:Blk W2 (w.heap.size+1) 53 #[.slice v.A2 v.r.pts.length v.c2,.slice v.A5 v.r.opts.length v.c5,.slice v.A7 v.r.flk.length v.c7]:=by rw[hW2];exact Blk.new _ _ _ _ (by simp)
 have hr2:=hr.now hb2;have HC:=hE (y3i [v.r.pts,v.r.opts,v.r.flk] _ 3 W2 (x1r hx1 hx1.lt hr.o.n2 hr.o.n5 hr.o.n7 hr2.r2 hr2.r5 hr2.r7) (by simp) (by intro l hl;simp at hl;rcases hl with rfl | rfl | rfl <;> assumption));clear hx1 hr2;go_enter Tryz.func70,Tryz.ntmps70
 go_wp2_with fail;rw[←hW2];clear hW2;refine HC.out.mono ?_;rintro e w3 ⟨cv,rfl,hlow,hb3'⟩;have hb3:=z00 hb2 hb2.size hb3';have hown:=(z5e z9z hlow).lower hb2.size;have hfl:[v.r.pts,v.r.opts,v.r.flk].flatten=v.r.pts++(v.r.opts++v.r.flk):=by simp
 rw[hfl] at hown;have HX:Hid (z0v (z4l ltG (v.r.pts++(v.r.opts++v.r.flk)))=z1t v.r):=hE rfl;have hal:(v.r.pts++(v.r.opts++v.r.flk)).length≤90000:=by simp only[qL];omega
 clear hlow hb3' hb2 HC hfl;generalize v.r.pts++(v.r.opts++v.r.flk)=all at *;obtain ⟨A3,c3,rfl⟩:=hown.form;have HSO:=hE (y0w 113 (enters_of Tryz.func113 (by kernel_rfl) rfl) x76 _ A3 c3 w.heap.size w3 hown (by omega));go_wp2_with fail
 refine HSO.out.mono ?_;rintro e w5 ⟨rfl,hown5,hf5⟩;have hb5:=hf5.keeps nL hb3.size hb3;have hpl:(z4l ltG all).length=all.length:=z9p;rw[←hpl] at hown5 hal ⊢;clear hown hf5 HSO hb3 hpl;generalize z4l ltG all=srt at *;have hrd5:=hown5.rdn.2;go_wp2_with fail
 go_loopw [4,19] (fun a i wr=>∃ k:Nat,k≤srt.length∧i=.int .i64 k∧z09 z2x wr w5.heap.size 78 a (z0v (srt.take k)) 0∧Below w5.heap.size w5 wr) (fun _ i _=>srt.length - (intOf i).toNat)
 case atStart=>exact ⟨0,nZ,rfl,z09.nil _ _ _ _ nZ,bQ⟩
 case round=>
  obtain ⟨k,hkl,rfl,hacc,hb⟩:=hrel;have hsz:=hb.size;have hcl:(z0v (srt.take k)).length≤90000:=nR (z4t _) (by rw[lTk];omega);by_cases hlt:k < srt.length
  ·have hki:(k:Int) < (srt.length:Int):=by omega
   have hrd:=(hown5.now hb).rdn.2;obtain ⟨b,off,hA,lb,ho,y0,y1⟩:=hrd.elG hlt;have lbw:b < wr.heap.size:=lb.2;have hal2:Below w5.heap.size w5 (wr.alloc (.cells #[.int .i64 srt[k].el,.int .i64 srt[k].pos] 78)):=hb.alloc hsz _;by_cases hk0:k=0
   ·subst hk0;have HS:=hE (x2w hlt);generalize z0v (srt.take 0)=acc at *;subst hA;simp only[Nat.zero_mul,Nat.add_zero] at y0 y1;generalize srt[0]=x at *;obtain ⟨W6,hW6⟩:∃ W,W=wr.alloc (.cells #[.int .i64 x.el,.int .i64 x.pos] 78):=⟨_,rfl⟩
    rw[←hW6] at hal2;have hbx:Blk W6 wr.heap.size 78 #[.int .i64 x.el,.int .i64 x.pos]:=by rw[hW6];exact Blk.new _ _ _ _ rfl
    have hacc6:=hacc.now (w':=W6) (by rw[hW6];exact bQ.alloc nL _);go_wp2_with fail
    rw[←hW6];clear hW6
    (refine wp_region_quiet_lit (by kernel_rfl) (by kernel_rfl) ?_;(repeat (any_goals (first | go_big_quiet_step (fail) | quiet_step (fail) | (refine wpQuiet_step (fun K hK=>?_);go_simp;split <;> (refine hK _ ?_;clear hK K)))));all_goals (refine wpQuiet_nil ?_;intro _ hw';obtain ⟨nq,hw''⟩:=hw';subst hw''))
    all_goals (try have hacc7:=hacc6.now (Below.drewN bQ nq))
    all_goals (try have hal7:=Below.drewN hal2 nq)
    have hsz7:=hal7.size;have ub0:=(hbx.drewN nq).cell 0;have ub1:=(hbx.drewN nq).cell 1;have ubl:=(hbx.drewN nq).lt;simp only[gqA,gqZ,gqS] at ub0 ub1;clear hacc6 hal2 hbx;generalize W6.drewN nq=W7 at *;go_wp2_with (at_builtin;go_loud (refine z0h (c:=z2x) _ rfl _ _ 53 rfl w5.heap.size 78 i0 _ 16 Tryz.underlying53 hi hz0 hz1 hz2 rfl (by decide) _ acc 0 rfl hacc7 [.int .i64 x.el,.int .i64 x.pos] x ⟨rfl,ho⟩ (by intro u hu;simp at hu;rcases hu with rfl | rfl <;> rfl) _ rfl (by omega) (by omega) (by omega) ?_);intro v' w7 hown7 hf7 hs7)
    go_roundw
    case rel=>
     have hk1:0+1≤srt.length:=hlt;refine ⟨0+1,hk1,by go_num,?_,hf7.keeps nL hsz7 hal7⟩;rw[HS.out];exact hown7
    case measure=>simp[intOf];omega
   ·obtain ⟨m,rfl⟩:∃ m,k=m+1:=⟨k - 1,by omega⟩
    obtain ⟨b',off',hA',lb',ho',z0,z1⟩:=hrd.elG (show m < srt.length by omega);rw[hA] at hA';simp only[qE,Addr.mk.injEq,and_true] at hA';obtain ⟨rfl,rfl⟩:=hA';have hkc:((m+1:Nat):Int)=(m:Int)+1:=by omega
    rw[hkc] at hki ⊢;have HS:=hE (z6d hlt);have heq:∀ W,(Op.equalIn 10000 78 (.agg #[.int .i64 srt[m+1].el,.int .i64 srt[m+1].pos]) (.agg #[.int .i64 srt[m].el,.int .i64 srt[m].pos])).run Tryz.prog W=.ok (decide (srt[m+1]=srt[m])) W:=fun W=>y55 W 9998 _ _
    have hwk:IntKind.i64.wrap (m:Int)=(m:Int):=IntWalk.i64_in _ (by omega);have hmi:(m:Int) < (srt.length:Int):=by omega
    have hk00:((m:Int)+1==0)=false:=by simp;omega
    generalize z0v (srt.take (m+1))=acc at *;subst hA
    cases hd:decide (srt[m+1]=srt[m]) with
    | true=>
     have HX2:Hid (z0v (srt.take (m+1+1))=acc):=hE (by rw[HS.out,if_pos (oDt hd),List.append_nil]);rw[hd] at heq;clear HS hd;generalize srt[m+1]=x at *;generalize srt[m]=q at *;obtain ⟨W6,hW6⟩:∃ W,W=wr.alloc (.cells #[.int .i64 x.el,.int .i64 x.pos] 78):=⟨_,rfl⟩
     rw[←hW6] at hal2;have hbe6:Below wr.heap.size wr W6:=by rw[hW6];exact bQ.alloc nL _
     have hbx:Blk W6 wr.heap.size 78 #[.int .i64 x.el,.int .i64 x.pos]:=by rw[hW6];exact Blk.new _ _ _ _ rfl
     have hacc6:=hacc.now hbe6;have q0:=(hbe6.cell (p:=⟨b,off+m*2,none⟩) lbw).trans z0;have q1:=(hbe6.cell (p:=⟨b,off+m*2+1,none⟩) lbw).trans z1;have u0:=hbx.cell 0;have u1:=hbx.cell 1;have lu:=hbx.lt;simp only[gqA,gqZ,gqS] at u0 u1;go_wp2_with fail
     rw[←hW6];clear hW6
     (refine wp_region_quiet_lit (by kernel_rfl) (by kernel_rfl) ?_;(repeat (any_goals (first | go_big_quiet_step (fail) | quiet_step (fail) | (refine wpQuiet_step (fun K hK=>?_);go_simp;split <;> (refine hK _ ?_;clear hK K)))));all_goals (refine wpQuiet_nil ?_;intro _ hw';obtain ⟨nq,hw''⟩:=hw';subst hw''))
     all_goals (go_wp2_with fail)
     all_goals go_roundw
     case rel=>
      have hk1:m+1+1≤srt.length:=hlt;refine ⟨m+1+1,hk1,by go_num,?_,?_⟩
      ·rw[HX2.out];exact hacc6.now (Below.drewN bQ _)
      ·exact Below.drewN hal2 _
     case measure=>simp[intOf];omega
    | false=>
     have HX2:Hid (z0v (srt.take (m+1+1))=acc++[srt[m+1]]):=hE (by rw[HS.out,if_neg (of_decide_eq_false hd)]);rw[hd] at heq;clear HS hd;generalize srt[m+1]=x at *;generalize srt[m]=q at *;obtain ⟨W6,hW6⟩:∃ W,W=wr.alloc (.cells #[.int .i64 x.el,.int .i64 x.pos] 78):=⟨_,rfl⟩
     rw[←hW6] at hal2;have hbe6:Below wr.heap.size wr W6:=by rw[hW6];exact bQ.alloc nL _
     have hbx:Blk W6 wr.heap.size 78 #[.int .i64 x.el,.int .i64 x.pos]:=by rw[hW6];exact Blk.new _ _ _ _ rfl
     have hacc6:=hacc.now hbe6;have q0:=(hbe6.cell (p:=⟨b,off+m*2,none⟩) lbw).trans z0;have q1:=(hbe6.cell (p:=⟨b,off+m*2+1,none⟩) lbw).trans z1;have u0:=hbx.cell 0;have u1:=hbx.cell 1;have lu:=hbx.lt;simp only[gqA,gqZ,gqS] at u0 u1;go_wp2_with fail
     rw[←hW6];clear hW6
     (refine wp_region_quiet_lit (by kernel_rfl) (by kernel_rfl) ?_;(repeat (any_goals (first | go_big_quiet_step (fail) | quiet_step (fail) | (refine wpQuiet_step (fun K hK=>?_);go_simp;split <;> (refine hK _ ?_;clear hK K)))));all_goals (refine wpQuiet_nil ?_;intro _ hw';obtain ⟨nq,hw''⟩:=hw';subst hw''))
     all_goals (try have hacc7:=hacc6.now (Below.drewN bQ nq))
     all_goals (try have hal7:=Below.drewN hal2 nq)
     have hsz7:=hal7.size;have ub0:=(hbx.drewN nq).cell 0;have ub1:=(hbx.drewN nq).cell 1;have ubl:=(hbx.drewN nq).lt;simp only[gqA,gqZ,gqS] at ub0 ub1;clear hacc6 hal2 hbx;generalize W6.drewN nq=W7 at *;go_wp2_with (at_builtin;go_loud (refine z0h (c:=z2x) _ rfl _ _ 53 rfl w5.heap.size 78 i0 _ 16 Tryz.underlying53 hi hz0 hz1 hz2 rfl (by decide) _ acc 0 rfl hacc7 [.int .i64 x.el,.int .i64 x.pos] x ⟨rfl,ho⟩ (by intro u hu;simp at hu;rcases hu with rfl | rfl <;> rfl) _ rfl (by omega) (by omega) (by omega) ?_);intro v' w7 hown7 hf7 hs7)
     go_roundw
     case rel=>
      have hk1:m+1+1≤srt.length:=hlt;refine ⟨m+1+1,hk1,by go_num,?_,hf7.keeps nL hsz7 hal7⟩;rw[HX2.out];exact hown7
     case measure=>simp[intOf];omega
  ·have hki:¬(k:Int) < (srt.length:Int):=by omega
   rw[tlL (by omega)] at hacc;have hacc2:=hacc.lower hb5.size;have hb9:=z00 hb5 hb5.size hb;clear hacc hb hcl;go_wp2_with fail
   go_ret;exact z0x HX.out rfl hacc2 hb9
end Go.Proofs.YtpenlfedkacglaaGreatDoor
