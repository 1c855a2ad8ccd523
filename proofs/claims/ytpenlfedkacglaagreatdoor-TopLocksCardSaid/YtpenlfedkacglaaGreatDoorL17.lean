import Derived.Test.YtpenlfedkacglaaGreatDoorL16
set_option maxRecDepth 100000
set_option maxHeartbeats 40000000
set_option linter.all false
namespace Go.Proofs.YtpenlfedkacglaaGreatDoor
open Go.RowKit
open Go.Maps (Keyed IsMap)
attribute [local go_sem] z05 z07 z01 z02
attribute [-go_sem] run_equalIn_agg
attribute [-go_sem] loadCellsFrom
theorem z4m {w:World} {S:Nat→Prop} (ys:List Value) (x:Rou) (h:cR.rd w S ys x):∀ u∈ys,u.oneCell' = true:=by
 obtain ⟨v,-,rfl,-⟩:=h;intro u hu;simp only[j9s,List.mem_cons,List.not_mem_nil,or_false] at hu;rcases hu with rfl | rfl | rfl | rfl | rfl | rfl | rfl | rfl | rfl | rfl | rfl | rfl | rfl | rfl <;> rfl
theorem y0m:(Tryz.prog.info? 56).map (fun i=>(i.zero,i.size,i.bytes))=some (some (.agg #[.string (ByteArray.mk #[]),.int .i64 0,.int .i64 0,.slice none 0 0,.slice none 0 0,.slice none 0 0,.int .i64 0,.int .i64 0,.slice none 0 0,.slice none 0 0,.slice none 0 0,.slice none 0 0,.slice none 0 0,.slice none 0 0]),14,264):=by kernel_rfl
theorem x4v {α:Type} {c:Cod α} {w:World} {base g B:Nat} {e:TypeId} {cs:Array Value} {v:Value} {l:List α} (h:z09 c w base e v l B) (hg:Blk w g e cs) (hne:∀ b,v.ownBlock=some b→b≠g) (_:∀ p:Addr,True→True) (j:Nat) (u:Value):z09 c (w.setCell ⟨g,j,none⟩ u) base e v l B:=by
 obtain ⟨xs,h1,h2,h3⟩:=h;have hs:∀ b,Sep w e B b→(w.setCell ⟨g,j,none⟩ u).heap[b]? = w.heap[b]?:=fun b hb=>Below.heap_setCell _ _ _ b (show b≠g from fun he=>hb.2 _ (0,0) (he▸hg))
 refine ⟨xs,⟨h1.1,?_⟩,(h2.keep fun p hp=>z0k (hs _ hp)).more fun b hb=>⟨hb.1,fun cs fr he=>hb.2 cs fr (by rw[←hs b hb];exact he)⟩,by simpa using h3⟩;rcases h1.2 with h | ⟨q,cap,cur,rfl,h5,h6,h7⟩
 ·exact Or.inl h
 ·exact Or.inr ⟨q,cap,cur,rfl,h5,(Below.heap_setCell _ _ _ q (hne q rfl)).trans h6,h7⟩
structure FmJ (v:LV) (W8 w:World) (L:List Rou) (gm:Nat) (k:Nat) (rs:Value) (wr:World):Prop where
 sz:W8.heap.size≤wr.heap.size
 kp:∀ b,Sep W8 56 W8.heap.size b→wr.heap[b]? = W8.heap[b]?
 bl:Blk wr w.heap.size 28 (z1c v)
 own:∃ B,z09 cR wr W8.heap.size 56 rs (z1l [] (L.take k)) B
 cnt:z7y wr gm k (y4y L k)
 gm8:W8.heap.size≤gm
 w8:w.heap.size < W8.heap.size
 bel:Below w.heap.size w wr
section
variable {v:LV} {W8 w:World} {L:List Rou} {gm k:Nat} {rs:Value} {wr w':World}
theorem FmJ.now (h:FmJ v W8 w L gm k rs wr) (hb:Below wr.heap.size wr w'):FmJ v W8 w L gm k rs w':=
 ⟨nR h.sz hb.size,fun b hs=>(hb.block b (nT hs.1 h.sz)).trans (h.kp b hs),h.bl.now hb,by obtain ⟨B,ho⟩:=h.own;exact ⟨B,ho.now hb⟩,h.cnt.now hb,h.gm8,h.w8,z00 h.bel h.bel.size hb⟩
theorem FmJ.j0g {α:Type} {c:Cod α} {A:Option Addr} {m:List α} (h:FmJ v W8 w L gm k rs wr) (hr:RdS c W8 (Sep W8 56 W8.heap.size) A m):RdS c wr (Sep wr 56 wr.heap.size) A m:=(hr.keep fun p hp=>z0k (h.kp _ hp)).more fun b hb=>⟨nT hb.1 h.sz,fun cs fr he=>hb.2 cs fr (by rw[←h.kp b hb];exact he)⟩
theorem FmJ.put (h:FmJ v W8 w L gm k rs wr) (hk:k < L.length) {f:List UInt8→Nat} {n:Nat} (hc:z7y w' gm n f) (hn:n=k+1) (hf:∀ x,f x=y4y L (k+1) x) (hg:wr.grownBy w' (some gm)) :
  W8.heap.size≤w'.heap.size∧(∀ b,Sep W8 56 W8.heap.size b→w'.heap[b]? = W8.heap[b]?)∧Blk w' w.heap.size 28 (z1c v)∧(∃ B,z09 cR w' W8.heap.size 56 rs (z1l [] (L.take k)) B)∧z7y w' gm (k+1) (y4y L (k+1))∧Below w.heap.size w w':=by
 subst hn;have hgm:=h.gm8;have hw8:=h.w8;refine ⟨nR h.sz hg.size,fun b hb=>(hg.block b (nT hb.1 h.sz) (fun he=>by have:=sJ he;have:=hb.1;omega)).trans (h.kp b hb),h.cnt.blk h.bl hg,?_,hc.ext hf,?_⟩
 ·obtain ⟨B,ho⟩:=h.own;exact ⟨B,ho.cnt h.cnt hc hg⟩
 ·exact h.bel.grown hg h.bel.size (fun q hq=>by have:=sJ hq;omega)
end
theorem x5v {w:World} {g:Nat} {T:TypeId} {a b:Value} (h:Blk w g T #[a,b]):Sem.run Tryz.prog (loadCellsFrom ⟨g,0,none⟩ 0 2 #[]) w=.ok #[a,b] w:=z04 h 2 rfl
theorem x9g {w:World} {g:Nat} {T:TypeId} {a b x y:Value} (h:Blk w g T #[a,b]):Blk ((w.setCell ⟨g,0,none⟩ x).setCell ⟨g,1,none⟩ y) g T #[x,y]∧Frm g T w ((w.setCell ⟨g,0,none⟩ x).setCell ⟨g,1,none⟩ y):=⟨(h.set 0 _).set 1 _,z0l (w:=w) [x,y] 0 h nL⟩
theorem x7l (v:LV) (k:Nat) (hkl:k < v.l.sgs.length) (w:World) (E:EnvR w) (hK:z9a v.l) (hr:LvR w v) :
  Calls Tryz.prog 33 #[lvA v,.int .i64 (k:Int)] w fun e w'=>∃ rs,e=.returned rs∧(∃ B,z09 cR w' w.heap.size 56 rs (z4h v.l (k:Int)) B)∧Below w.heap.size w w':=by
 obtain ⟨iR,hiR,hR0,hR1,hR2⟩:=info_parts y0m;obtain ⟨W2,hW2⟩:∃ W,W=w.alloc (.cells (z1c v) 28):=⟨_,rfl⟩
 have hb2:Below w.heap.size w W2:=by rw[hW2];exact bQ.alloc nL _
 have hx2:Blk W2 w.heap.size 28 (z1c v):=by rw[hW2];exact Blk.new _ _ _ _ rfl
 have hn4:=hr.n4.1;unfold maxLen at hn4;obtain ⟨b4,off4,hA4,lb4,ho4,q0,q1,q2,q3⟩:=(hr.now hb2).r4.x36 hkl;have hki:(k:Int) < (v.l.sgs.length:Int):=by omega
 have hki2:¬(v.l.sgs.length:Int)≤(k:Int):=by omega
 have hki0:¬(k:Int) < 0:=by omega
 have LS:Hid (∀ (j:Nat) (y:Value),[.int .i64 v.l.sgs[k].pos.el,.int .i64 v.l.sgs[k].pos.sd][j]? = some y→W2.cell? ⟨b4,off4+k*4+1+j,none⟩=some y):=hE fun j y hy=>match j,hy with
  | 0,hy=>(sJ hy)▸q1
  | 1,hy=>(sJ hy)▸q2
 obtain ⟨sg,hsg⟩:∃ sg,v.l.sgs[k]=sg:=⟨_,rfl⟩
 rw[hsg] at LS ho4;have HFR:=hE (show ∀ jo,z03 v.l.jts sg.pos=jo→z4h v.l (k:Int)=match jo with | some e=>z1l [] ((z1e v.l 12 [] e).map (z2c v.l (k:Int))) | none=>[] from fun jo hj=>by
  unfold z4h;rw[(j7c hkl).1,hsg,hj];cases jo <;> rfl)
 obtain ⟨jo,hjo⟩:∃ jo,z03 v.l.jts sg.pos=jo:=⟨_,rfl⟩
 have hjo64:∀ e,jo=some e→z0p e.el∧z0p e.sd:=fun e he=>z3b (w:=w) (S:=Lt w) (fun j hj=>by
  obtain ⟨i,hi,rfl⟩:=List.getElem_of_mem hj;obtain ⟨_,_,_,_,ho,_⟩:=hr.r3.elJ hi;exact ⟨ho.1,ho.2⟩) (hjo.trans he)
 have hhe:∀ e,jo=some e→z2w v.l e.el=true:=fun e he=>hK.jn _ _ (hjo.trans he)
 have HFX:=hE (HFR.out jo hjo);have HJN:=hE fun W' (h:Below W2.heap.size W2 W')=>z6g v sg.pos W' (hr.now (z00 hb2 hb2.size h))
 unfold lvA at HJN;rw[hjo] at HJN;have hjv:z6w jo=.tuple #[.agg #[.int .i64 (jo.getD ⟨0,0⟩).el,.int .i64 (jo.getD ⟨0,0⟩).sd],.bool jo.isSome]:=rfl;rw[hjv] at HJN;obtain ⟨ja,hja⟩:∃ a,(jo.getD ⟨0,0⟩).el=a:=⟨_,rfl⟩
 obtain ⟨jb,hjb⟩:∃ a,(jo.getD ⟨0,0⟩).sd=a:=⟨_,rfl⟩
 rw[hja,hjb] at HJN;have HJA:=hE (aIq hja hjb);have HA4:=hE hA4;have lb4':b4 < W2.heap.size:=lb4;have HSS:Hid (∀ W,Below W2.heap.size W2 W→(fun w'=>Sem.run Tryz.prog (loadCellsFrom ⟨w.heap.size,0,none⟩ 0 6 #[]) w' = .ok (z1c v) w'∧w'.cell? ⟨w.heap.size,4,none⟩=some (.slice v.A4 v.l.sgs.length v.c4)∧Sem.run Tryz.prog (loadCellsFrom ⟨b4,off4+k*4+1,none⟩ 0 2 #[]) w' = .ok #[.int .i64 sg.pos.el,.int .i64 sg.pos.sd] w') W):=hE fun W h=>⟨z04 (hx2.now h) 6 rfl,(hx2.now h).cell 4,z2e (b:=b4) (o:=off4+k*4+1) (n:=2) (ys:=[.int .i64 sg.pos.el,.int .i64 sg.pos.sd]) rfl fun j y hy=>(h.cell (p:=⟨b4,off4+k*4+1+j,none⟩) lb4').trans (LS.out j y hy)⟩
 have x4:=(hx2.cell 4)
 have lx:=hx2.lt;simp only[gqA,gqZ,gqS] at x4;have HX2:=hE hx2;clear hjv hja hjb hjo q0 q1 q2 q3 hsg hA4 HFR lb4 hx2;unfold lvA;go_enter Tryz.func33,Tryz.ntmps33
 go_upto_region 1 with (fail)
 rw[←hW2];clear hW2;go_wp2_with fail
 rename_i Q' K hK';have TAIL:∀ (g:Nat) (w5:World) (u3 u7 u8 u9 u10 u11 u12 u13 u14 u15 u16 u17 u18 u19 u20 u21 u22 u23 u24 u25 u26 u27 u28 u29 u30 u31 u32 u33 u34 u35 u36 u37 u38 u39 u40 u41 u42 u43 u44 u45 u46 u47 u48 u49 u50 u51 u52 u53 u54 u55 u56 u57 u58 u59 u60 u61 u62 u63 u64 u65 u66 u67 u68 u69 u70 u71 u72 u73 u74 u75:Value),Blk w5 g 90 #[.int .i64 ja,.int .i64 jb]→Below W2.heap.size W2 w5→W2.heap.size≤g→K { tmps:=#[.agg (z1c v),.int .i64 (k:Int),.pointer (some ⟨w.heap.size,0,none⟩),u3,.slice none 0 0,.pointer (some ⟨g,0,none⟩),.bool jo.isSome,u7,u8,u9,u10,u11,u12,u13,u14,u15,u16,u17,u18,u19,u20,u21,u22,u23,u24,u25,u26,u27,u28,u29,u30,u31,u32,u33,u34,u35,u36,u37,u38,u39,u40,u41,u42,u43,u44,u45,u46,u47,u48,u49,u50,u51,u52,u53,u54,u55,u56,u57,u58,u59,u60,u61,u62,u63,u64,u65,u66,u67,u68,u69,u70,u71,u72,u73,u74,u75],defers:=[] } w5:=by
  intro g w5 u3 u7 u8 u9 u10 u11 u12 u13 u14 u15 u16 u17 u18 u19 u20 u21 u22 u23 u24 u25 u26 u27 u28 u29 u30 u31 u32 u33 u34 u35 u36 u37 u38 u39 u40 u41 u42 u43 u44 u45 u46 u47 u48 u49 u50 u51 u52 u53 u54 u55 u56 u57 u58 u59 u60 u61 u62 u63 u64 u65 u66 u67 u68 u69 u70 u71 u72 u73 u74 u75 hz5 hq5 hg5;refine hK' _ _ ?_;have hb5:=z00 hb2 hb2.size hq5;have hx5:=HX2.out.now hq5;clear HJN HSS x4 lx
  cases jo with
  | none=>
   have HX:=hE (show z4h v.l (k:Int)=[] from HFX.out);dsimp only [Option.isSome_none];clear hz5 hx5;go_wp2_with fail
   go_ret
   exact ⟨_,rfl,⟨0,by rw[HX.out];exact z09.nil _ _ _ _ nZ⟩,hb5⟩
  | some e=>
   have HX:=hE (show z4h v.l (k:Int)=z1l [] ((z1e v.l 12 [] e).map (z2c v.l (k:Int))) from HFX.out);have he64:=hjo64 e rfl;have hee:=hhe e rfl;obtain ⟨h1,h2⟩:=HJA.out;have h1:e.el=ja:=h1;have h2:e.sd=jb:=h2;rw[←h1,←h2] at hz5;dsimp only [Option.isSome_some];have ld0:=z04 hx5 6 rfl;obtain ⟨W6,hW6⟩:∃ W,W=w5.alloc (.cells #[.string (bs v.l.name),.slice v.A1 v.l.secs.length v.c1,.slice v.A2 v.l.els.length v.c2,.slice v.A3 v.l.jts.length v.c3,.slice v.A4 v.l.sgs.length v.c4,.slice v.A5 v.l.bls.length v.c5,.slice none 0 0] 141):=⟨_,rfl⟩
   have hq6:Below w5.heap.size w5 W6:=by rw[hW6];exact bQ.alloc nL _
   have hfd:FdB W6 w5.heap.size v (.slice none 0 0):=by rw[hW6];exact Blk.new _ _ _ _ rfl
   have hs6:W6.heap.size=w5.heap.size+1:=by rw[hW6];simp
   have hb6:=z00 hb5 hb5.size hq6;have hx6:=hx5.now hq6;have hz6:=hz5.now hq6;have hfk:z1y W6 w5.heap.size (w5.heap.size+1) v []:=⟨_,hfd,⟨[],World.ownsRow_nil _ _ _ _,rfl,by omega⟩,by omega⟩
   have HFO:=hE (x0o w v hr E w5.heap.size hb5.size 12 (w5.heap.size+1) (w5.heap.size+1) [] [] none 0 e W6 rfl hfk hb6 (by omega) nL (by omega) (z09.nil _ _ _ _ nZ) he64 (by simp));clear hjo64 hhe h1 h2 hfk;go_upto_region 7 with (fail)
   rw[←hW6];clear hW6 ld0;have ld2:=x5v hz6;go_wp2_with fail
   refine HFO.out.mono ?_;rintro en w7 ⟨rfl,hfin,hfr⟩;rw[List.nil_append] at hfin;obtain ⟨pv,hfd7,hlow,-⟩:=hfin;have hb7:=hfr.below hb5.size hb6.size hb6;have hl1:=hx5.lt;have hx7:Blk w7 w.heap.size 28 (z1c v):=(hfr.low _ hl1 (by omega)).trans hx6;obtain ⟨ps,hps⟩:∃ ps,z1e v.l 12 [] e=ps:=⟨_,rfl⟩
   have hpl:ps.length≤4096:=by rw[←hps];exact z6f v.l 12 [] e
   have hpo:∀ p∈ps,1≤p.length∧p.length≤12:=fun p hp=>by
    have:=y07 hK 12 [] e (y1v.nil _) rfl hee p (by rw[hps];exact hp);exact this.2
   rw[hps] at hlow HX;obtain ⟨A0,c0,hpv,hn0,hrd0⟩:=hlow.rds (S':=Sep w7 56 w7.heap.size) (fun b hb=>⟨hb.2.1,fun cs fr he=>by obtain ⟨cs',h⟩:=hb.2.2;rw[h] at he;simp only[qE,Obj.cells.injEq] at he;exact absurd he.2.1 (by decide)⟩) (fun b hb=>by
    obtain ⟨cs,h⟩:=hlow.obj b hb;exact ⟨z0j h,fun cs' fr he=>by rw[h] at he;simp only[qE,Obj.cells.injEq] at he;exact absurd he.2.1 (by decide)⟩)
   subst hpv;obtain ⟨-,-,-,-,-,-,x6⟩:=hfd7.x;have lgf:=Blk.lt hfd7;obtain ⟨L,hL⟩:∃ L,ps.map (z2c v.l (k:Int))=L:=⟨_,rfl⟩
   have hLl:L.length=ps.length:=by rw[←hL,List.length_map]
   rw[hL] at HX;have HLB:=hE (show ∀ (j:Nat) (h:j < ps.length) (h':j < L.length),L[j]=z2c v.l (k:Int) ps[j] from fun j h h'=>by subst hL;simp);have HPO:=hE (show ∀ (j:Nat) (h:j < ps.length),1≤ps[j].length∧ps[j].length≤12 from fun j h=>hpo _ (uE h));obtain ⟨W9,hW9⟩:∃ W,W=w7.alloc (.map #[] 0):=⟨_,rfl⟩
   have hJ0:FmJ v w7 w L w7.heap.size 0 (.slice none 0 0) W9:=by
    rw[hW9];have hq9:Below w7.heap.size w7 (w7.alloc (.map #[] 0)):=bQ.alloc nL _;exact ⟨hq9.size,fun b hb=>hq9.block b hb.1,hx7.now hq9,⟨0,z09.nil _ _ _ _ nZ⟩,(z7y.made w7).ext (fun x=>(x2v L x).symm),nL,hx7.lt,z00 hb7 hb7.size hq9⟩
   have x69:W9.cell? ⟨w5.heap.size,6,none⟩=some (.slice A0 ps.length c0):=by rw[hW9];exact (((Below.refl w7.heap.size w7).alloc nL _).cell (p:=⟨w5.heap.size,6,none⟩) lgf).trans x6
   have lgf9:w5.heap.size < W9.heap.size:=by rw[hW9];simp;omega
   have HJ0:=hE hJ0;have HR0:=hE hrd0;clear hpo hps hL hlow hfd7 hx7 hb7 hfr x6 lgf hrd0 hJ0 hx6 hz6 hb6 hq6 hfd hs6 ld2 HFO hx5 hz5 hee hl1 hn0;have hmm:=@run_makeMap Tryz.prog;go_upto_region 10 with (fail)
   clear hmm;rw[←hW9];clear hW9;go_wp2_with fail
   clear x69 lgf9;go_loopw [8,44] (fun rs n wr=>∃ j:Nat,n=.int .i64 j∧j≤ps.length∧FmJ v w7 w L w7.heap.size j rs wr) (fun _ n _=>ps.length - (intOf n).toNat)
   case atStart=>exact ⟨0,rfl,nZ,HJ0.out⟩
   case round=>
    obtain ⟨j,rfl,hjl,hJ⟩:=hrel;clear HJ0;by_cases hlt:j < ps.length;case neg=>
     have hji:¬(j:Int) < (ps.length:Int):=by omega
     have HXX:=hE (show z4h v.l (k:Int)=z1l [] (L.take j) by rw[HX.out,tlL (by omega)]);obtain ⟨B,hown⟩:=hJ.own;have HO:=hE hown;have hbw:=hJ.bel;have hw8:=hJ.w8;obtain ⟨A9,c9,hv9⟩:=hown.form;clear hown hJ hlt;subst hv9;generalize z1l [] (L.take j)=ns at *;go_wp2_with fail
     go_ret;exact ⟨_,rfl,⟨B,by rw[HXX.out];exact HO.out.lower (by omega)⟩,hbw⟩
    case pos=>
     have hji:(j:Int) < (ps.length:Int):=by omega
     have hlL:j < L.length:=by omega
     have hj1:j+1≤ps.length:=hlt;have HLj:=hE (fun _:Unit=>(⟨hlL,HLB.out j hlt hlL⟩:∃ h:j < L.length,L[j]=z2c v.l (k:Int) ps[j]));have hpj:=HPO.out j hlt;obtain ⟨b,off,A',cap',hA0,lb,cc,hnp,hrp⟩:=j8m (hJ.j0g HR0.out) hlt;subst hA0;have lb':b < wr.heap.size:=lb.1;have HBD:=hE (x2o v k hkl ps[j] A' cap' wr (E.now hJ.bel) hK (hr.now hJ.bel) hrp (by omega) hpj.2 hnp.2);unfold lvA at HBD;obtain ⟨pj,hpje⟩:∃ p,ps[j]=p:=⟨_,rfl⟩
     rw[hpje] at HBD cc;have HLj2:=hE (fun _:Unit=>(by obtain ⟨h,he⟩:=HLj.out ();exact ⟨h,by rw[he,hpje]⟩:∃ h:j < L.length,L[j]=z2c v.l (k:Int) pj));have ld0:=z04 hJ.bl 6 rfl;have HJ:=hE hJ;clear hJ hrp hnp hpje HLj hpj hlt hlL lb hjl;go_wp2_with fail
     refine HBD.out.mono ?_;rintro en w3 ⟨rv,rfl,hrr,hrv,hq3⟩;clear HBD ld0 cc lb';have hJ3:=HJ.out.now hq3;obtain ⟨W4,hW4⟩:∃ W,W=w3.alloc (.cells (z0e rv) 56):=⟨_,rfl⟩
     have hq4:Below w3.heap.size w3 W4:=by rw[hW4];exact bQ.alloc nL _
     have hbr4:Blk W4 w3.heap.size 56 (z0e rv):=by rw[hW4];exact Blk.new _ _ _ _ rfl
     have hJ4:=hJ3.now hq4;have hrv4:RvR W4 (Sep W4 56 W4.heap.size) rv:=(hrv.keep fun p hp=>hq4.cell hp.1).more fun b hb=>⟨nT hb.1 hq4.size,fun cs fr he=>hb.2 cs fr (by rw[←hq4.block b hb.1];exact he)⟩
     have hnm:rv.r.name.length≤25:=by rw[hrr];exact x2p hK hkl pj
     have HRR:=hE (fun _:Unit=>(by obtain ⟨h,he⟩:=HLj2.out ();exact ⟨h,by rw[he,hrr]⟩:∃ h:j < L.length,L[j]=rv.r));have hob8:∀ b,(u8:Value).ownBlock=some b→b≠w3.heap.size:=fun b hb=>by
      obtain ⟨B,xs,h1,_⟩:=hJ3.own;have:=(World.ownsRow.lt h1 b hb).2;omega
     have hw73:w7.heap.size < w3.heap.size:=by
      have h1:=hJ3.cnt.lt;have h2:=hJ3.gm8;omega
     clear hrr hrv hq3 hJ3 HLj2 HJ;go_upto_region 14 with (fail)
     rw[←hW4];clear hW4 hq4;have n0:=hbr4.cell 0;have nl:=hbr4.lt;simp only[gqA,gqZ,gqS] at n0;have hcnt:=hJ4.cnt;have hjm:j < maxLen:=by unfold maxLen;omega
     have hnx:rv.r.name.length≤maxLen:=by unfold maxLen;omega
     obtain ⟨c,hc⟩:∃ c,y4y L j rv.r.name=c:=⟨_,rfl⟩
     have hcj:c≤j:=by rw[←hc];exact j1e _ _ _
     have hwc:IntKind.i64.wrap ((c:Int)+1)=((c+1:Nat):Int):=by rw[IntWalk.i64_in _ (by omega)];omega
     have hcb:c+1≤1000000:=by omega
     have HST:=hE (aIq hJ4 (aIq hbr4 hrv4));have HCC:=hE hc;clear hJ4 hbr4 hrv4 hc;go_upto_region 16 with (first | (at_lookup;refine z5z _ rfl _ _ 143 rfl Tryz.underlying143 w7.heap.size j (y4y L j) rfl hcnt rv.r.name hnx rfl ?_;rw[HCC.out]) | (at_lookup;refine z5z _ rfl _ _ 143 rfl Tryz.underlying143 w7.heap.size (j+1) (fun y=>if y=rv.r.name then c+1 else y4y L j y) rfl hcn5 rv.r.name hnx rfl ?_;dsimp only;rw[if_pos rfl]) | (at_mapUpdate;refine y1s _ rfl _ _ _ 143 rfl Tryz.underlying143 w7.heap.size j (y4y L j) rfl hcnt hjm rv.r.name hnx rfl (c+1) hcb rfl ?_;intro w5b hcn5 hgr5;have hbr5:=HST.out.1.cnt.blk HST.out.2.1 hgr5;have n5:=hbr5.cell 0;have nl5:=hbr5.lt;simp only[gqA,gqZ,gqS] at n5))
     obtain ⟨hlL,hLr⟩:=HRR.out ();have hput:=HST.out.1.put hlL hcn5 rfl (fun x=>by rw[x2u hlL x,hLr];by_cases hx:x=rv.r.name <;> simp[hx,HCC.out]) hgr5;have hrv5:RvR w5b (Sep w5b 56 w5b.heap.size) rv:=by
      have hm:=HST.out.1.cnt;obtain ⟨es,ck,ho⟩:=hm.obj;obtain ⟨es',ck',ho'⟩:=hcn5.obj;refine (HST.out.2.2.keep fun p hp=>?_).more fun q hq=>⟨nT hq.1 hgr5.size,fun cs fr hx=>?_⟩
      ·by_cases hpb:p.block=w7.heap.size
       ·rw[z7g (w:=w5b) (by rw[hpb,ho'];intro _ _ _ h;cases h),z7g (w:=W4) (by rw[hpb,ho];intro _ _ _ h;cases h)]
       ·exact z0k (hgr5.block _ hp.1 (fun he=>hpb (sJ he)))
      ·by_cases hpb:q=w7.heap.size
       ·subst hpb;rw[ho'] at hx;cases hx
       ·rw[hgr5.block q hq.1 (fun he=>hpb (sJ he))] at hx;exact hq.2 cs fr hx
     obtain ⟨p1,p2,p3,p4,p5,p6⟩:=hput;have HPU:=hE (show ∀ (W:World) (rv2:z2v),Below w5b.heap.size w5b W∨W=w5b→True from fun _ _ _=>trivial);have HP:=hE (aIq p1 (aIq p2 (aIq p3 (aIq p4 (aIq p5 p6)))));have HR5:=hE (aIq hbr5 hrv5);have HG:=hE (aIq HST.out.1.gm8 HST.out.1.w8);have HW3:=hE hw73;have HOB:=hE (show ∀ W,Below w5b.heap.size w5b W→∀ b,(u8:Value).ownBlock=some b→b≠w3.heap.size from fun W _=>hob8);have HNS:=hE (show z1l [] (L.take (j+1))=z1l [] (L.take j)++[nmd rv.r c] by rw[x1e hlL,hLr,HCC.out]);clear hcn5 hgr5 hbr5 hrv5 p1 p2 p3 p4 p5 p6 hLr hlL n0 nl n5 nl5 HPU HST hcnt;by_cases hc0:c=0;case pos=>
      subst hc0;clear hwc;obtain ⟨p1,p2,p3,p4,p5,p6⟩:=HP.out;have bx:=HR5.out.1;have hrv2:=HR5.out.2;have HNS2:=hE (show z1l [] (L.take (j+1))=z1l [] (L.take j)++[rv.r] from HNS.out);clear HP HR5 HNS HRR;have ld1:=z04 bx 14 rfl;have bxl:=bx.lt;have h4:Below w5b.heap.size w5b (w5b.alloc (.cells (z0e rv) 56)):=bQ.alloc nL _;have hbz4:Blk (w5b.alloc (.cells (z0e rv) 56)) w5b.heap.size 56 (z0e rv):=Blk.new _ _ _ _ rfl;obtain ⟨B,hown⟩:=p4;have hown4:=hown.now h4;have hrv4:cR.rd (w5b.alloc (.cells (z0e rv) 56)) (Sep (w5b.alloc (.cells (z0e rv) 56)) 56 ((w5b.alloc (.cells (z0e rv) 56))).heap.size) [.string (bs rv.r.name),.int .i64 rv.r.ent,.int .i64 rv.r.ext,.slice rv.A1 rv.r.path.length rv.c1,.slice rv.A2 rv.r.pts.length rv.c2,.slice rv.A3 rv.r.secs.length rv.c3,.int .i64 rv.r.app,.int .i64 rv.r.len,.slice rv.A4 rv.r.over.length rv.c4,.slice rv.A5 rv.r.opts.length rv.c5,.slice rv.A6 rv.r.osecs.length rv.c6,.slice rv.A7 rv.r.flk.length rv.c7,.slice rv.A8 rv.r.grd.length rv.c8,.slice rv.A9 rv.r.gap.length rv.c9] rv.r:=⟨rv,rfl,rfl,(hrv2.keep fun p hp=>h4.cell hp.1).more fun b hb=>⟨nT hb.1 h4.size,fun cs fr he=>hb.2 cs fr (by rw[←h4.block b hb.1];exact he)⟩⟩
      obtain ⟨ns,hns⟩:∃ ns,z1l [] (L.take j)=ns:=⟨_,rfl⟩
      have hln:ns.length≤100000:=by rw[←hns,z5t,lTk];omega
      rw[hns] at hown4 HNS2;have hws:w7.heap.size≤((w5b.alloc (.cells (z0e rv) 56))).heap.size:=nR p1 h4.size;have HX4:=hE (aIq h4 (aIq p1 (aIq p2 (aIq p3 (aIq p5 p6)))));have HG2:=HG.out;have HOR:=hE (z4m _ _ hrv4);clear hown p1 p2 p3 p5 p6 hrv2 bx hns;go_wp2_with (at_builtin;(refine z0m (c:=cR) _ rfl _ _ 30 rfl w7.heap.size 56 iR _ 264 Tryz.underlying30 hiR hR0 hR1 hR2 rfl (by decide) _ ns B rfl hown4 [.string (bs rv.r.name),.int .i64 rv.r.ent,.int .i64 rv.r.ext,.slice rv.A1 rv.r.path.length rv.c1,.slice rv.A2 rv.r.pts.length rv.c2,.slice rv.A3 rv.r.secs.length rv.c3,.int .i64 rv.r.app,.int .i64 rv.r.len,.slice rv.A4 rv.r.over.length rv.c4,.slice rv.A5 rv.r.opts.length rv.c5,.slice rv.A6 rv.r.osecs.length rv.c6,.slice rv.A7 rv.r.flk.length rv.c7,.slice rv.A8 rv.r.grd.length rv.c8,.slice rv.A9 rv.r.gap.length rv.c9] rv.r hrv4 HOR.out ⟨w5b.heap.size,0,none⟩ 1 rfl (fun j u hj=>by rw[z0g];exact z0f hbz4 j u hj) hln (by omega) hws ?_);intro v' w9 hq9)
      go_roundw
      case rel=>
       obtain ⟨k4,k1,k2,k3,k5,k6⟩:=HX4.out;have hsz4:=k4.size;exact ⟨j+1,by go_num,hj1,⟨nR hws hq9.frm.size,fun b hb=>(hq9.frm.low b hb.1 (nT hb.1 hws)).trans ((k4.block b (nT hb.1 k1)).trans (k2 b hb)),hq9.frm.blk (k3.now k4) (by decide),⟨_,by rw[HNS2.out];exact hq9.own⟩,(k5.now k4).frm hq9.frm,HG.out.1,HG.out.2,hq9.frm.keeps (Nat.le_of_lt HG.out.2) (nR k6.size hsz4) (z00 k6 k6.size k4)⟩⟩
      case measure=>simp[intOf];omega
     case neg=>
      have tc0:0 < c:=by omega
      have tc1:(1:Int) < (c:Int)+1:=by omega
      have tc2:decide ((1:Int) < (c:Int)+1)=true:=by simp;omega
      have HIT:=hE fun W' (h:Below w5b.heap.size w5b W')=>(Tryz.strconv_Itoa ((c:Int)+1) (by omega) (by omega) W' ((E.now HP.out.2.2.2.2.2).now h).tab).mono (R':=fun en w''=>en=.returned (.string (bs (Lib.itoa ((c:Int)+1))))∧Below W'.heap.size W' w'') fun _ _ ⟨h,k,os,hw⟩=>⟨h,hw▸Lib.below_grow _ _ nL k os⟩
      have hil:(Lib.itoa ((c:Int)+1)).length≤21:=x3r _ (by omega);obtain ⟨it,hit⟩:∃ it,Lib.itoa ((c:Int)+1)=it:=⟨_,rfl⟩
      have HIE:=hE (show nmd rv.r c = { rv.r with name:=rv.r.name++46::it } by unfold nmd;rw[if_neg (by omega),←hit,show ((c+1:Nat):Int)=(c:Int)+1 by omega]);rw[hit] at HIT hil;have n5:=HR5.out.1.cell 0;have nl5:=HR5.out.1.lt;simp only[gqA,gqZ,gqS] at n5;clear hit hc0 hwc;go_upto_region 17 with (fail)
      have hE1:(ByteArray.mk #[46])++bs it=bs (46::it):=z01 [46] it;have ha1:¬9223372036854775807 < it.length+1:=by omega
      have ha2:¬9223372036854775807 < 1+it.length:=by omega
      have hb1:¬9223372036854775807 < rv.r.name.length+(it.length+1):=by omega
      have hb9:¬9223372036854775807 < rv.r.name.length+(1+it.length):=by omega
      refine rgH 8 (S:=(fun _=>True)) (trivial) fun hHeld=>?_
      refine tkM 2 [0,2] ?_;refine rd2 1 3 rfl rfl (fun K hK=>?_) fun K hK=>?_
      focus
       go_simp;refine hK.out _ _ trivial (fun hHeld=>?_);clear hK K;try simp only[Act.put,lsa,lsz,lss]
       refine rd1 3 rfl fun K hK=>?_
       go_simp;go_at_call 82
       refine (HIT.out _ bQ.drew).mono ?_;rintro en wq ⟨rfl,hqq⟩;have hq:Below w5b.heap.size w5b wq:=bQ.drew.trans hqq;go_wp2_with fail
       refine hK.out _ _ trivial (fun hHeld=>?_);clear hK K;try simp only[Act.put,lsa,lsz,lss]
       refine tkM 3 [4,5,6] ?_;have bxq:=HR5.out.1.now hq;have z0:=bxq.cell 0;have zf:=bxq.free;have zl:=bxq.lt;simp only[gqA,gqZ,gqS] at z0;obtain ⟨rv2,hrv2e⟩:∃ rv2:z2v,rv2 = { rv with r:={ rv.r with name:=rv.r.name++46::it } }:=⟨_,rfl⟩
       have bx:Blk (wq.setCell ⟨w3.heap.size,0,none⟩ (.string (bs (rv.r.name++46::it)))) w3.heap.size 56 (z0e rv2):=by rw[hrv2e];exact bxq.set 0 _
       have hfr:Frm w3.heap.size 56 wq (wq.setCell ⟨w3.heap.size,0,none⟩ (.string (bs (rv.r.name++46::it)))):=z0l (w:=wq) [.string (bs (rv.r.name++46::it))] 0 bxq nL;obtain ⟨p1,p2,p3,p4,p5,p6⟩:=HP.out;have hrvq:RvR wq (Sep wq 56 wq.heap.size) rv:=(HR5.out.2.keep fun p hp=>hq.cell hp.1).more fun b hb=>⟨nT hb.1 hq.size,fun cs fr he=>hb.2 cs fr (by rw[←hq.block b hb.1];exact he)⟩
       have hkB:∀ b,Sep wq 56 wq.heap.size b→(wq.setCell ⟨w3.heap.size,0,none⟩ (.string (bs (rv.r.name++46::it)))).heap[b]? = wq.heap[b]?:=fun b hb=>Below.heap_setCell _ _ _ b (show b≠w3.heap.size from fun he=>hb.2 _ (0,0) (he▸bxq))
       have hrvX:RvR (wq.setCell ⟨w3.heap.size,0,none⟩ (.string (bs (rv.r.name++46::it)))) (Sep (wq.setCell ⟨w3.heap.size,0,none⟩ (.string (bs (rv.r.name++46::it)))) 56 ((wq.setCell ⟨w3.heap.size,0,none⟩ (.string (bs (rv.r.name++46::it))))).heap.size) rv:=(hrvq.keep fun p hp=>z0k (hkB _ hp)).more fun b hb=>⟨nT hb.1 (by simp),fun cs fr he=>hb.2 cs fr (by rw[←hkB b hb];exact he)⟩
       have hrv2:RvR (wq.setCell ⟨w3.heap.size,0,none⟩ (.string (bs (rv.r.name++46::it)))) (Sep (wq.setCell ⟨w3.heap.size,0,none⟩ (.string (bs (rv.r.name++46::it)))) 56 ((wq.setCell ⟨w3.heap.size,0,none⟩ (.string (bs (rv.r.name++46::it))))).heap.size) rv2:=by rw[hrv2e];exact ⟨⟨by dsimp only;rw[qL,lCn];unfold maxLen;omega,hrvX.o.ent,hrvX.o.ext,hrvX.o.app,hrvX.o.len,hrvX.o.n1,hrvX.o.n2,hrvX.o.n3,hrvX.o.n4,hrvX.o.n5,hrvX.o.n6,hrvX.o.n7,hrvX.o.n8,hrvX.o.n9⟩,hrvX.r1,hrvX.r2,hrvX.r3,hrvX.r4,hrvX.r5,hrvX.r6,hrvX.r7,hrvX.r8,hrvX.r9⟩
       have hg7:=HG.out.2;have hp1:w7.heap.size≤((wq.setCell ⟨w3.heap.size,0,none⟩ (.string (bs (rv.r.name++46::it))))).heap.size:=by simp;exact nR p1 hq.size
       have hlw3:w7.heap.size < w3.heap.size:=HW3.out;have hp2:∀ b,Sep w7 56 w7.heap.size b→((wq.setCell ⟨w3.heap.size,0,none⟩ (.string (bs (rv.r.name++46::it))))).heap[b]? = w7.heap[b]?:=fun b hb=>(hfr.low b (Nat.lt_trans hb.1 hlw3) (nT hb.1 (nR p1 hq.size))).trans ((hq.block b (nT hb.1 p1)).trans (p2 b hb))
       have hp3:=hfr.blk (p3.now hq) (by decide);have hp4:∃ B,z09 cR (wq.setCell ⟨w3.heap.size,0,none⟩ (.string (bs (rv.r.name++46::it)))) w7.heap.size 56 u8 (z1l [] (L.take j)) B:=by
        obtain ⟨B,ho⟩:=p4;exact ⟨B,x4v (ho.now hq) bxq (HOB.out _ hq) (fun _ _=>trivial) 0 _⟩
       have hp5:=(p5.now hq).frm hfr;have hp6:=hfr.keeps (show w.heap.size≤w3.heap.size by omega) (nR p6.size hq.size) (z00 p6 p6.size hq);have HNS2:=hE (show z1l [] (L.take (j+1))=z1l [] (L.take j)++[rv2.r] by rw[HNS.out,HIE.out,hrv2e]);obtain ⟨wt,hwt⟩:∃ W,W=(wq.setCell ⟨w3.heap.size,0,none⟩ (.string (bs (rv.r.name++46::it)))):=⟨_,rfl⟩
       rw[←hwt] at bx hrv2 hp1 hp2 hp3 hp4 hp5 hp6;have HWT:=hE hwt;have HBX:=hE (aIq bx (aIq hrv2 (aIq hp1 (aIq hp2 (aIq hp3 (aIq hp4 (aIq hp5 hp6)))))));clear bx hrv2 hp1 hp2 hp3 hp4 hp5 hp6 p1 p2 p3 p4 p5 p6 hrvq hrvX hkB hfr hwt hrv2e bxq;refine rd1 7 rfl fun K hK=>?_
       go_simp;refine hK.out _ _ trivial (fun hHeld=>?_);clear hK K;try simp only[Act.put,lsa,lsz,lss]
       refine wdn ?_;clear hHeld z0 zf zl;rw[←HWT.out];clear HWT;obtain ⟨bx,hrv2,p1,p2,p3,p4,p5,p6⟩:=HBX.out;clear HBX HP HR5 HNS HIT HRR hqq hq n5 nl5;have ld1:=z04 bx 14 rfl;have bxl:=bx.lt;have h4:Below wt.heap.size wt (wt.alloc (.cells (z0e rv2) 56)):=bQ.alloc nL _;have hbz4:Blk (wt.alloc (.cells (z0e rv2) 56)) wt.heap.size 56 (z0e rv2):=Blk.new _ _ _ _ rfl;obtain ⟨B,hown⟩:=p4;have hown4:=hown.now h4;have hrv4:cR.rd (wt.alloc (.cells (z0e rv2) 56)) (Sep (wt.alloc (.cells (z0e rv2) 56)) 56 ((wt.alloc (.cells (z0e rv2) 56))).heap.size) [.string (bs rv2.r.name),.int .i64 rv2.r.ent,.int .i64 rv2.r.ext,.slice rv2.A1 rv2.r.path.length rv2.c1,.slice rv2.A2 rv2.r.pts.length rv2.c2,.slice rv2.A3 rv2.r.secs.length rv2.c3,.int .i64 rv2.r.app,.int .i64 rv2.r.len,.slice rv2.A4 rv2.r.over.length rv2.c4,.slice rv2.A5 rv2.r.opts.length rv2.c5,.slice rv2.A6 rv2.r.osecs.length rv2.c6,.slice rv2.A7 rv2.r.flk.length rv2.c7,.slice rv2.A8 rv2.r.grd.length rv2.c8,.slice rv2.A9 rv2.r.gap.length rv2.c9] rv2.r:=⟨rv2,rfl,rfl,(hrv2.keep fun p hp=>h4.cell hp.1).more fun b hb=>⟨nT hb.1 h4.size,fun cs fr he=>hb.2 cs fr (by rw[←h4.block b hb.1];exact he)⟩⟩
       obtain ⟨ns,hns⟩:∃ ns,z1l [] (L.take j)=ns:=⟨_,rfl⟩
       have hln:ns.length≤100000:=by rw[←hns,z5t,lTk];omega
       rw[hns] at hown4 HNS2;have hws:w7.heap.size≤((wt.alloc (.cells (z0e rv2) 56))).heap.size:=nR p1 h4.size;have HX4:=hE (aIq h4 (aIq p1 (aIq p2 (aIq p3 (aIq p5 p6)))));have HG2:=HG.out;have HOR:=hE (z4m _ _ hrv4);clear hown p1 p2 p3 p5 p6 hrv2 bx hns;go_wp2_with (at_builtin;(refine z0m (c:=cR) _ rfl _ _ 30 rfl w7.heap.size 56 iR _ 264 Tryz.underlying30 hiR hR0 hR1 hR2 rfl (by decide) _ ns B rfl hown4 [.string (bs rv2.r.name),.int .i64 rv2.r.ent,.int .i64 rv2.r.ext,.slice rv2.A1 rv2.r.path.length rv2.c1,.slice rv2.A2 rv2.r.pts.length rv2.c2,.slice rv2.A3 rv2.r.secs.length rv2.c3,.int .i64 rv2.r.app,.int .i64 rv2.r.len,.slice rv2.A4 rv2.r.over.length rv2.c4,.slice rv2.A5 rv2.r.opts.length rv2.c5,.slice rv2.A6 rv2.r.osecs.length rv2.c6,.slice rv2.A7 rv2.r.flk.length rv2.c7,.slice rv2.A8 rv2.r.grd.length rv2.c8,.slice rv2.A9 rv2.r.gap.length rv2.c9] rv2.r hrv4 HOR.out ⟨wt.heap.size,0,none⟩ 1 rfl (fun j u hj=>by rw[z0g];exact z0f hbz4 j u hj) hln (by omega) hws ?_);intro v' w9 hq9)
       go_roundw
       case rel=>
        obtain ⟨k4,k1,k2,k3,k5,k6⟩:=HX4.out;have hsz4:=k4.size;exact ⟨j+1,by go_num,hj1,⟨nR hws hq9.frm.size,fun b hb=>(hq9.frm.low b hb.1 (nT hb.1 hws)).trans ((k4.block b (nT hb.1 k1)).trans (k2 b hb)),hq9.frm.blk (k3.now k4) (by decide),⟨_,by rw[HNS2.out];exact hq9.own⟩,(k5.now k4).frm hq9.frm,HG.out.1,HG.out.2,hq9.frm.keeps (Nat.le_of_lt HG.out.2) (nR k6.size hsz4) (z00 k6 k6.size k4)⟩⟩
       case measure=>simp[intOf];omega
      focus
       go_simp;go_at_call 82
       refine (HIT.out _ bQ.drew).mono ?_;rintro en wq ⟨rfl,hqq⟩;have hq:Below w5b.heap.size w5b wq:=bQ.drew.trans hqq;go_wp2_with fail
       refine hK.out _ _ trivial (fun hHeld=>?_);clear hK K;try simp only[Act.put,lsa,lsz,lss]
       refine tkM 1 [4] ?_;have n5q:=(hq.cell (p:=⟨w3.heap.size,0,none⟩) nl5).trans n5;refine rd1 1 rfl fun K hK=>?_
       go_simp;refine hK.out _ _ trivial (fun hHeld=>?_);clear hK K;try simp only[Act.put,lsa,lsz,lss]
       clear n5q;refine tkM 2 [5,6] ?_;have bxq:=HR5.out.1.now hq;have z0:=bxq.cell 0;have zf:=bxq.free;have zl:=bxq.lt;simp only[gqA,gqZ,gqS] at z0;obtain ⟨rv2,hrv2e⟩:∃ rv2:z2v,rv2 = { rv with r:={ rv.r with name:=rv.r.name++46::it } }:=⟨_,rfl⟩
       have bx:Blk (wq.setCell ⟨w3.heap.size,0,none⟩ (.string (bs (rv.r.name++46::it)))) w3.heap.size 56 (z0e rv2):=by rw[hrv2e];exact bxq.set 0 _
       have hfr:Frm w3.heap.size 56 wq (wq.setCell ⟨w3.heap.size,0,none⟩ (.string (bs (rv.r.name++46::it)))):=z0l (w:=wq) [.string (bs (rv.r.name++46::it))] 0 bxq nL;obtain ⟨p1,p2,p3,p4,p5,p6⟩:=HP.out;have hrvq:RvR wq (Sep wq 56 wq.heap.size) rv:=(HR5.out.2.keep fun p hp=>hq.cell hp.1).more fun b hb=>⟨nT hb.1 hq.size,fun cs fr he=>hb.2 cs fr (by rw[←hq.block b hb.1];exact he)⟩
       have hkB:∀ b,Sep wq 56 wq.heap.size b→(wq.setCell ⟨w3.heap.size,0,none⟩ (.string (bs (rv.r.name++46::it)))).heap[b]? = wq.heap[b]?:=fun b hb=>Below.heap_setCell _ _ _ b (show b≠w3.heap.size from fun he=>hb.2 _ (0,0) (he▸bxq))
       have hrvX:RvR (wq.setCell ⟨w3.heap.size,0,none⟩ (.string (bs (rv.r.name++46::it)))) (Sep (wq.setCell ⟨w3.heap.size,0,none⟩ (.string (bs (rv.r.name++46::it)))) 56 ((wq.setCell ⟨w3.heap.size,0,none⟩ (.string (bs (rv.r.name++46::it))))).heap.size) rv:=(hrvq.keep fun p hp=>z0k (hkB _ hp)).more fun b hb=>⟨nT hb.1 (by simp),fun cs fr he=>hb.2 cs fr (by rw[←hkB b hb];exact he)⟩
       have hrv2:RvR (wq.setCell ⟨w3.heap.size,0,none⟩ (.string (bs (rv.r.name++46::it)))) (Sep (wq.setCell ⟨w3.heap.size,0,none⟩ (.string (bs (rv.r.name++46::it)))) 56 ((wq.setCell ⟨w3.heap.size,0,none⟩ (.string (bs (rv.r.name++46::it))))).heap.size) rv2:=by rw[hrv2e];exact ⟨⟨by dsimp only;rw[qL,lCn];unfold maxLen;omega,hrvX.o.ent,hrvX.o.ext,hrvX.o.app,hrvX.o.len,hrvX.o.n1,hrvX.o.n2,hrvX.o.n3,hrvX.o.n4,hrvX.o.n5,hrvX.o.n6,hrvX.o.n7,hrvX.o.n8,hrvX.o.n9⟩,hrvX.r1,hrvX.r2,hrvX.r3,hrvX.r4,hrvX.r5,hrvX.r6,hrvX.r7,hrvX.r8,hrvX.r9⟩
       have hg7:=HG.out.2;have hp1:w7.heap.size≤((wq.setCell ⟨w3.heap.size,0,none⟩ (.string (bs (rv.r.name++46::it))))).heap.size:=by simp;exact nR p1 hq.size
       have hlw3:w7.heap.size < w3.heap.size:=HW3.out;have hp2:∀ b,Sep w7 56 w7.heap.size b→((wq.setCell ⟨w3.heap.size,0,none⟩ (.string (bs (rv.r.name++46::it))))).heap[b]? = w7.heap[b]?:=fun b hb=>(hfr.low b (Nat.lt_trans hb.1 hlw3) (nT hb.1 (nR p1 hq.size))).trans ((hq.block b (nT hb.1 p1)).trans (p2 b hb))
       have hp3:=hfr.blk (p3.now hq) (by decide);have hp4:∃ B,z09 cR (wq.setCell ⟨w3.heap.size,0,none⟩ (.string (bs (rv.r.name++46::it)))) w7.heap.size 56 u8 (z1l [] (L.take j)) B:=by
        obtain ⟨B,ho⟩:=p4;exact ⟨B,x4v (ho.now hq) bxq (HOB.out _ hq) (fun _ _=>trivial) 0 _⟩
       have hp5:=(p5.now hq).frm hfr;have hp6:=hfr.keeps (show w.heap.size≤w3.heap.size by omega) (nR p6.size hq.size) (z00 p6 p6.size hq);have HNS2:=hE (show z1l [] (L.take (j+1))=z1l [] (L.take j)++[rv2.r] by rw[HNS.out,HIE.out,hrv2e]);obtain ⟨wt,hwt⟩:∃ W,W=(wq.setCell ⟨w3.heap.size,0,none⟩ (.string (bs (rv.r.name++46::it)))):=⟨_,rfl⟩
       rw[←hwt] at bx hrv2 hp1 hp2 hp3 hp4 hp5 hp6;have HWT:=hE hwt;have HBX:=hE (aIq bx (aIq hrv2 (aIq hp1 (aIq hp2 (aIq hp3 (aIq hp4 (aIq hp5 hp6)))))));clear bx hrv2 hp1 hp2 hp3 hp4 hp5 hp6 p1 p2 p3 p4 p5 p6 hrvq hrvX hkB hfr hwt hrv2e bxq;refine rd1 7 rfl fun K hK=>?_
       go_simp;refine hK.out _ _ trivial (fun hHeld=>?_);clear hK K;try simp only[Act.put,lsa,lsz,lss]
       refine wdn ?_;clear hHeld z0 zf zl;rw[←HWT.out];clear HWT;obtain ⟨bx,hrv2,p1,p2,p3,p4,p5,p6⟩:=HBX.out;clear HBX HP HR5 HNS HIT HRR hqq hq n5 nl5;have ld1:=z04 bx 14 rfl;have bxl:=bx.lt;have h4:Below wt.heap.size wt (wt.alloc (.cells (z0e rv2) 56)):=bQ.alloc nL _;have hbz4:Blk (wt.alloc (.cells (z0e rv2) 56)) wt.heap.size 56 (z0e rv2):=Blk.new _ _ _ _ rfl;obtain ⟨B,hown⟩:=p4;have hown4:=hown.now h4;have hrv4:cR.rd (wt.alloc (.cells (z0e rv2) 56)) (Sep (wt.alloc (.cells (z0e rv2) 56)) 56 ((wt.alloc (.cells (z0e rv2) 56))).heap.size) [.string (bs rv2.r.name),.int .i64 rv2.r.ent,.int .i64 rv2.r.ext,.slice rv2.A1 rv2.r.path.length rv2.c1,.slice rv2.A2 rv2.r.pts.length rv2.c2,.slice rv2.A3 rv2.r.secs.length rv2.c3,.int .i64 rv2.r.app,.int .i64 rv2.r.len,.slice rv2.A4 rv2.r.over.length rv2.c4,.slice rv2.A5 rv2.r.opts.length rv2.c5,.slice rv2.A6 rv2.r.osecs.length rv2.c6,.slice rv2.A7 rv2.r.flk.length rv2.c7,.slice rv2.A8 rv2.r.grd.length rv2.c8,.slice rv2.A9 rv2.r.gap.length rv2.c9] rv2.r:=⟨rv2,rfl,rfl,(hrv2.keep fun p hp=>h4.cell hp.1).more fun b hb=>⟨nT hb.1 h4.size,fun cs fr he=>hb.2 cs fr (by rw[←h4.block b hb.1];exact he)⟩⟩
       obtain ⟨ns,hns⟩:∃ ns,z1l [] (L.take j)=ns:=⟨_,rfl⟩
       have hln:ns.length≤100000:=by rw[←hns,z5t,lTk];omega
       rw[hns] at hown4 HNS2;have hws:w7.heap.size≤((wt.alloc (.cells (z0e rv2) 56))).heap.size:=nR p1 h4.size;have HX4:=hE (aIq h4 (aIq p1 (aIq p2 (aIq p3 (aIq p5 p6)))));have HG2:=HG.out;have HOR:=hE (z4m _ _ hrv4);clear hown p1 p2 p3 p5 p6 hrv2 bx hns;go_wp2_with (at_builtin;(refine z0m (c:=cR) _ rfl _ _ 30 rfl w7.heap.size 56 iR _ 264 Tryz.underlying30 hiR hR0 hR1 hR2 rfl (by decide) _ ns B rfl hown4 [.string (bs rv2.r.name),.int .i64 rv2.r.ent,.int .i64 rv2.r.ext,.slice rv2.A1 rv2.r.path.length rv2.c1,.slice rv2.A2 rv2.r.pts.length rv2.c2,.slice rv2.A3 rv2.r.secs.length rv2.c3,.int .i64 rv2.r.app,.int .i64 rv2.r.len,.slice rv2.A4 rv2.r.over.length rv2.c4,.slice rv2.A5 rv2.r.opts.length rv2.c5,.slice rv2.A6 rv2.r.osecs.length rv2.c6,.slice rv2.A7 rv2.r.flk.length rv2.c7,.slice rv2.A8 rv2.r.grd.length rv2.c8,.slice rv2.A9 rv2.r.gap.length rv2.c9] rv2.r hrv4 HOR.out ⟨wt.heap.size,0,none⟩ 1 rfl (fun j u hj=>by rw[z0g];exact z0f hbz4 j u hj) hln (by omega) hws ?_);intro v' w9 hq9)
       go_roundw
       case rel=>
        obtain ⟨k4,k1,k2,k3,k5,k6⟩:=HX4.out;have hsz4:=k4.size;exact ⟨j+1,by go_num,hj1,⟨nR hws hq9.frm.size,fun b hb=>(hq9.frm.low b hb.1 (nT hb.1 hws)).trans ((k4.block b (nT hb.1 k1)).trans (k2 b hb)),hq9.frm.blk (k3.now k4) (by decide),⟨_,by rw[HNS2.out];exact hq9.own⟩,(k5.now k4).frm hq9.frm,HG.out.1,HG.out.2,hq9.frm.keeps (Nat.le_of_lt HG.out.2) (nR k6.size hsz4) (z00 k6 k6.size k4)⟩⟩
       case measure=>simp[intOf];omega
 refine rgS 14 HSS fun hHeld=>?_
 refine tkM 4 [0,1,2,3] ?_;have hA4:=HA4.out;refine tkM 1 [4] ?_;clear hA4;refine tkM 2 [5,6] ?_;refine rd2 7 11 rfl rfl (fun K hK=>?_) fun K hK=>?_
 focus
  go_simp;go_at_call 79
  refine (HJN.out _ bQ.drew).mono ?_;rintro en wq ⟨rfl,hqq⟩;have hbq:Below W2.heap.size W2 wq:=bQ.drew.trans hqq;go_wp2_with fail
  refine hK.out _ _ (HSS.out _ hbq) (fun hHeld=>?_);clear hK K;try simp only[Act.put,lsa,lsz,lss]
  refine tkM 3 [8,9,10] ?_;refine rd1 11 rfl fun K hK=>?_
  go_simp;refine hK.out _ _ (HSS.out _ (hbq.alloc hbq.size _)) (fun hHeld=>?_);clear hK K;try simp only[Act.put,lsa,lsz,lss]
  refine rd1 12 rfl fun K hK=>?_
  go_simp;refine hK.out _ _ (HSS.out _ (hbq.alloc hbq.size _)) (fun hHeld=>?_);clear hK K;try simp only[Act.put,lsa,lsz,lss]
  refine tkM 1 [13] ?_;refine wdn ?_;exact TAIL wq.heap.size (wq.alloc (.cells #[.int .i64 ja,.int .i64 jb] 90)) _ _ _ _ _ _ _ _ _ _ _ _ _ _ _ _ _ _ _ _ _ _ _ _ _ _ _ _ _ _ _ _ _ _ _ _ _ _ _ _ _ _ _ _ _ _ _ _ _ _ _ _ _ _ _ _ _ _ _ _ _ _ _ _ _ _ _ _ _ _ (Blk.new _ _ _ _ rfl) (hbq.alloc hbq.size _) hbq.size
 focus
  go_simp;refine hK.out _ _ (HSS.out _ (bQ.alloc nL _).drew) (fun hHeld=>?_);clear hK K;try simp only[Act.put,lsa,lsz,lss]
  refine rd1 7 rfl fun K hK=>?_
  go_simp;go_at_call 79
  have hal9:Below W2.heap.size W2 ((W2.alloc (.cells #[.int .i64 0,.int .i64 0] 90)).drew):=(bQ.alloc nL _).drew;have hbz9:Blk ((W2.alloc (.cells #[.int .i64 0,.int .i64 0] 90)).drew) W2.heap.size 90 #[.int .i64 0,.int .i64 0]:=(Blk.new _ _ _ _ rfl).drew;refine (HJN.out _ hal9).mono ?_;rintro en wq ⟨rfl,hqq⟩;have hbz:=hbz9.now hqq;have hbq:Below W2.heap.size W2 wq:=z00 hal9 hal9.size hqq;go_wp2_with fail
  refine hK.out _ _ (HSS.out _ hbq) (fun hHeld=>?_);clear hK K;try simp only[Act.put,lsa,lsz,lss]
  refine tkM 3 [8,9,10] ?_;have u0:=hbz.cell 0;have u1:=hbz.cell 1;simp only[gqA,gqZ,gqS] at u0 u1;have uf:=hbz.free;have ul:=hbz.lt;have hpt:=x9g (x:=.int .i64 ja) (y:=.int .i64 jb) hbz;have hb5:=hpt.2.keeps nL hbq.size hbq;have HPT:=hE (aIq hpt.1 hb5);clear hpt hb5;refine rd1 12 rfl fun K hK=>?_
  go_simp;refine hK.out _ _ (HSS.out _ HPT.out.2) (fun hHeld=>?_);clear hK K;try simp only[Act.put,lsa,lsz,lss]
  refine tkM 1 [13] ?_;refine wdn ?_;exact TAIL W2.heap.size _ _ _ _ _ _ _ _ _ _ _ _ _ _ _ _ _ _ _ _ _ _ _ _ _ _ _ _ _ _ _ _ _ _ _ _ _ _ _ _ _ _ _ _ _ _ _ _ _ _ _ _ _ _ _ _ _ _ _ _ _ _ _ _ _ _ _ _ _ _ _ HPT.out.1 HPT.out.2 nL
end Go.Proofs.YtpenlfedkacglaaGreatDoor
namespace Go.Proofs.YtpenlfedkacglaaGreatDoor
open Go.RowKit
attribute [local go_sem] z05 z07 z01 z02
attribute [-go_sem] run_equalIn_agg
attribute [-go_sem] loadCellsFrom
def x03 (s:Stp) (k:Nat):List z0o:=(((List.range k).map fun (k:Nat)=>(k:Int)).filter fun k=>!decide (k=s.inn) && !decide (k=s.out)).map fun k=>⟨s.el,k⟩
theorem x2l (s:Stp) (k:Nat):x03 s (k+1)=x03 s k++(if !decide ((k:Int)=s.inn) && !decide ((k:Int)=s.out) then [⟨s.el,(k:Int)⟩] else []):=by
 unfold x03;rw[List.range_succ,List.map_append,List.filter_append,List.map_append];congr 1;cases h:(!decide ((k:Int)=s.inn) && !decide ((k:Int)=s.out)) <;> simp[h]
theorem y8a (s:Stp) (k:Nat):(x03 s k).length≤k:=by
 unfold x03;rw[List.length_map];exact nR (List.length_filter_le _ _) (by simp)
theorem y6a (k:Int):0≤z2k k∧z2k k≤4:=by unfold z2k;split <;> (try split) <;> (try split) <;> omega
theorem j04 {l:Lay} {s:Stp} (h:z2w l s.el=false):y1x l s=[]:=by unfold y1x;rw[h];rfl
theorem y8b {l:Lay} {s:Stp} (h:z2w l s.el=true) (hn:z2a (z0s l s.el) s.inn s.out=none):y1x l s=[]:=by unfold y1x;rw[h,hn];rfl
theorem y8c {l:Lay} {s:Stp} {q:Int} (h:z2w l s.el=true) (hn:z2a (z0s l s.el) s.inn s.out=some q):y1x l s=x03 s (z2k (z0s l s.el)).toNat:=by unfold y1x x03;rw[h,hn];rfl
theorem x04 (l:LV) (s:Stp) (w:World) (E:y6n w) (hl:LvR w l):Calls Tryz.prog 37 #[lvA l,.agg #[.int .i64 s.el,.int .i64 s.inn,.int .i64 s.out]] w (y35 y1z 90 w (y1x l.l s)):=by
 obtain ⟨i0,hi0,hy0,hy1,hy2⟩:=info_parts z7j;obtain ⟨W2,hW2⟩:∃ W,W=(w.alloc (.cells (z1c l) 28)).alloc (.cells #[.int .i64 s.el,.int .i64 s.inn,.int .i64 s.out] 85):=⟨_,rfl⟩
 have hb:Below w.heap.size w W2:=by rw[hW2];exact (bQ.alloc nL _).alloc (by simp) _
 have hbl:Blk W2 w.heap.size 28 (z1c l):=by rw[hW2];exact (Blk.new _ _ _ _ rfl).alloc _
 have hbs:Blk W2 (w.heap.size+1) 85 #[.int .i64 s.el,.int .i64 s.inn,.int .i64 s.out]:=by rw[hW2];exact Blk.new _ _ _ _ (by simp)
 have e2:=hbl.cell 2;have s0:=hbs.cell 0;have s1:=hbs.cell 1;have s2:=hbs.cell 2;have ll:=hbl.lt;have sl:=hbs.lt;have ln2:=hl.n2.1;unfold maxLen at ln2;simp only[gqA,gqZ,gqS] at e2 s0 s1 s2;obtain ⟨hh,hhb⟩:∃ b,z2w l.l s.el=b:=⟨_,rfl⟩
 unfold lvA
 cases hh with
 | false=>
  have HX:=hE (j04 hhb);have hbw:=hE hb;by_cases hn:s.el < 0
  ·have hnd:decide (s.el < 0)=true:=by simpa using hn
   clear hhb hb hbl hbs;go_enter Tryz.func37,Tryz.ntmps37
   go_upto_region 1 with (fail)
   rw[←hW2];clear hW2;go_wp2_with fail
   go_ret;exact z0x HX.out.symm rfl (z09.nil _ _ _ _ nZ) hbw.out
  ·have hnd:decide (s.el < 0)=false:=by simpa using hn
   have hng:(l.l.els.length:Int)≤s.el:=by
    rcases Int.lt_or_le s.el l.l.els.length with h | h
    ·exact absurd (z4k.2 ⟨by omega,h⟩) (by rw[hhb];decide)
    ·exact h
   clear hhb hb hbl hbs;go_enter Tryz.func37,Tryz.ntmps37
   go_upto_region 1 with (fail)
   rw[←hW2];clear hW2;go_wp2_with fail
   go_ret
   exact z0x HX.out.symm rfl (z09.nil _ _ _ _ nZ) hbw.out
 | true=>
  obtain ⟨m,hm,hmn⟩:=z5a hhb;obtain ⟨sel,sin,sout⟩:=s;dsimp only at hm;subst hm;dsimp only at *;have hnd:decide ((m:Int) < 0)=false:=by simp
  have hng:¬(l.l.els.length:Int)≤(m:Int):=by omega
  have hng2:(m:Int) < (l.l.els.length:Int):=by omega
  obtain ⟨b2,off2,hA2,lb2,ho2,-,q1,-⟩:=(hl.now hb).r2.elE hmn;have lb2':b2 < W2.heap.size:=lb2;rw[hA2] at e2;have hkA:=z5q hmn;obtain ⟨kd,hkd⟩:∃ kd,l.l.els[m].kind=kd:=⟨_,rfl⟩
  rw[hkd] at q1 hkA;have HND:=hE (y3z kd sin sout W2 (E.now hb).toEnvR);have HNO:=hE (fun (h:z2a kd sin sout=none)=>(y8b (s:=⟨(m:Int),sin,sout⟩) hhb (by dsimp only;rw[hkA];exact h):y1x l.l ⟨(m:Int),sin,sout⟩=[]));have HSO:=hE (fun (q:Int) (h:z2a kd sin sout=some q)=>by have:=y8c (s:=⟨(m:Int),sin,sout⟩) (q:=q) hhb (by dsimp only;rw[hkA];exact h);dsimp only at this;rw[hkA] at this;exact this);obtain ⟨nd,hndd⟩:∃ nd,z2a kd sin sout=nd:=⟨_,rfl⟩
  rw[hndd] at HND HNO HSO;clear hhb ho2 hkd lb2 hkA hndd;unfold z1c at hW2;rw[hA2] at hW2;have HA2:=hE hA2;unfold z1c;rw[HA2.out];clear hA2;go_enter Tryz.func37,Tryz.ntmps37
  go_upto_region 1 with (fail)
  rw[←hW2];clear hW2;go_wp2_with fail
  refine HND.out.mono ?_;rintro en w3 ⟨rfl,hq⟩;have hbs:=hbs.now hq;have hb:=z00 hb hb.size hq;clear HND hbl e2 s0 s1 s2 ll sl q1 lb2' hq;have s0:=hbs.cell 0;have s1:=hbs.cell 1;have s2:=hbs.cell 2;have sl:=hbs.lt;simp only[gqA,gqZ,gqS] at s0 s1 s2
  cases nd with
  | none=>
   have HX:=hE (HNO.out rfl);have hbw:=hE hb;clear HNO HSO hb hbs;simp only[Option.getD_none,Option.isSome_none];go_wp2_with fail
   go_ret
   exact z0x HX.out.symm rfl (z09.nil _ _ _ _ nZ) hbw.out
  | some q=>
   have HX:=hE (HSO.out q rfl);have HSD:=hE (y0u kd w3 (E.now hb));have hrg:=y6a kd;obtain ⟨nn,hnn⟩:∃ n:Nat,z2k kd=(n:Int):=⟨(z2k kd).toNat,by omega⟩
   rw[hnn] at HSD HX hrg;rw[Int.toNat_natCast] at HX;have hn4:nn≤4:=by omega
   clear HNO HSO hrg hnn;simp only[Option.getD_some,Option.isSome_some];go_wp2_with fail
   refine HSD.out.mono ?_;rintro en w4 ⟨rfl,rfl⟩;clear HSD;have hmi:z0p (m:Int):=by constructor <;> omega
   have HB:=hE hb;have HBS:=hE hbs;clear hb hbs s0 s1 s2 sl;go_wp2_with fail
   go_loopw [8,41] (fun v n wr=>∃ k:Nat,k≤nn∧n=.int .i64 k∧z09 y1z wr w.heap.size 90 v (x03 ⟨(m:Int),sin,sout⟩ k) 0∧Blk wr (w.heap.size+1) 85 #[.int .i64 (m:Int),.int .i64 sin,.int .i64 sout]∧Below w.heap.size w wr) (fun _ n _=>nn - (intOf n).toNat)
   case atStart=>exact ⟨0,nZ,rfl,z09.nil _ _ _ _ nZ,HBS.out,HB.out⟩
   case round=>
    obtain ⟨k,hk,rfl,hown,hbs,hb⟩:=hrel;clear HB HBS;have s0:=hbs.cell 0;have s1:=hbs.cell 1;have s2:=hbs.cell 2;have sl:=hbs.lt;simp only[gqA,gqZ,gqS] at s0 s1 s2;by_cases hlt:k < nn
    ·have hki:(k:Int) < (nn:Int):=by omega
     have hst:=x2l ⟨(m:Int),sin,sout⟩ k;have hkl:=y8a ⟨(m:Int),sin,sout⟩ k;have hk1:k+1≤nn:=hlt;dsimp only at hst;have hI:z0p (k:Int):=by constructor <;> omega
     obtain ⟨bk,hbk⟩:∃ bk,x03 ⟨(m:Int),sin,sout⟩ k=bk:=⟨_,rfl⟩
     rw[hbk] at hst hkl hown;clear hlt hbk;by_cases h1:(k:Int)=sin
     ·have t1:((k:Int) != sin)=false:=by simp[h1]
      have HN:=hE (show x03 ⟨(m:Int),sin,sout⟩ (k+1)=bk by rw[hst];simp[h1]);clear hst h1;go_wp2_with fail
      go_roundw
      case rel=>exact ⟨k+1,hk1,by go_num,by rw[HN.out];exact hown,hbs,hb⟩
      case measure=>simp[intOf];omega
     ·have t1:((k:Int) != sin)=true:=by simp[h1]
      by_cases h2:(k:Int)=sout
      ·have t2:((k:Int) != sout)=false:=by simp[h2]
       have HN:=hE (show x03 ⟨(m:Int),sin,sout⟩ (k+1)=bk by rw[hst];simp[h2]);clear hst h1 h2;go_wp2_with fail
       go_roundw
       case rel=>exact ⟨k+1,hk1,by go_num,by rw[HN.out];exact hown,hbs,hb⟩
       case measure=>simp[intOf];omega
      ·have t2:((k:Int) != sout)=true:=by simp[h2]
       have HN:=hE (show x03 ⟨(m:Int),sin,sout⟩ (k+1)=bk++[⟨(m:Int),(k:Int)⟩] by rw[hst];simp[h1,h2]);clear hst h1 h2;have h4:Below wr.heap.size wr (wr.alloc (.cells #[.int .i64 (m:Int),.int .i64 (k:Int)] 90)):=bQ.alloc nL _;have hbz4:Blk (wr.alloc (.cells #[.int .i64 (m:Int),.int .i64 (k:Int)] 90)) wr.heap.size 90 #[.int .i64 (m:Int),.int .i64 (k:Int)]:=Blk.new _ _ _ _ rfl;have hown4:=hown.now h4;have hws:=nR hb.size h4.size;have HZ4:=hE (aIq (hbs.now h4) (z00 hb hb.size h4));go_wp2_with (at_builtin;go_loud (refine z0m (c:=y1z) _ rfl _ _ 54 rfl w.heap.size 90 i0 _ 16 Tryz.underlying54 hi0 hy0 hy1 hy2 rfl (by decide) _ bk 0 rfl hown4 [.int .i64 (m:Int),.int .i64 (k:Int)] ⟨(m:Int),(k:Int)⟩ ⟨rfl,hmi,hI⟩ (by intro u hu;simp at hu;rcases hu with rfl | rfl <;> rfl) ⟨wr.heap.size,0,none⟩ 1 rfl (fun j u hj=>by rw[z0g];exact z0f hbz4 j u hj) (by omega) (by omega) hws ?_);intro v' w5 hq5)
       go_roundw
       case rel=>exact ⟨k+1,hk1,by go_num,by rw[HN.out];exact hq5.own.low z9x,hq5.frm.blk HZ4.out.1 (by decide),hq5.frm.keeps nL hws HZ4.out.2⟩
       case measure=>simp[intOf];omega
    ·obtain rfl:k=nn:=by omega
     obtain ⟨A',c',hv⟩:=hown.form;have HO:=hE hown;clear hown hlt hbs s0 s1 s2 sl hk;subst hv;generalize x03 ⟨(m:Int),sin,sout⟩ k=ns at *;go_wp2_with fail
     go_ret;exact z0x HX.out.symm rfl HO.out hb
end Go.Proofs.YtpenlfedkacglaaGreatDoor
namespace Go.Proofs.YtpenlfedkacglaaGreatDoor
open Go.RowKit
theorem x3k {l:Lay} {r:Rou} {e:z0o} (h:z3p l r 4 e=none):z90 l r e = { r with gap:=r.gap++[e] }:=by unfold z90;rw[h]
theorem x7k {l:Lay} {r:Rou} {e:z0o} {s:Stg} {g:Int} (h:z3p l r 4 e=some (s,g)) (hg:0≤g):z90 l r e = { r with grd:=r.grd++[g] }:=by unfold z90;rw[h];exact if_pos hg
theorem j1k {l:Lay} {r:Rou} {e:z0o} {s:Stg} {g:Int} (h:z3p l r 4 e=some (s,g)) (hg:¬0≤g) (hs:s=zG):z90 l r e=r:=by unfold z90;rw[h];exact (if_neg hg).trans (if_pos hs)
theorem x7j {l:Lay} {r:Rou} {e:z0o} {s:Stg} {g:Int} (h:z3p l r 4 e=some (s,g)) (hg:¬0≤g) (hs:¬s=zG):z90 l r e = { r with flk:=r.flk++[s] }:=by unfold z90;rw[h];exact (if_neg hg).trans (if_neg hs)
theorem x6h {r:Rou} {f:z0o} {s:Stg} (h:y1k r f=some s) (hf:z0p f.el):z0p s.el∧z0p s.pos:=by
 obtain ⟨p,hp,rfl,-⟩:=y4t h;exact ⟨hf,by rcases hp with rfl | rfl <;> constructor <;> simp⟩
theorem y9h {w:World} {l:LV} (hl:LvR w l) {r:Rou}:∀ (n:Nat) {e:z0o} {s:Stg} {g:Int},z3p l.l r n e=some (s,g)→(z0p s.el∧z0p s.pos)∧z0p g
 | 0,_,_,_,h=>by cases h
 | n+1,e,s,g,h=>by
  rw[y63] at h;have hn:=hl.n4.1;unfold maxLen at hn
  cases hj:z03 l.l.jts e with
  | none=>
   rw[hj] at h;obtain ⟨rfl,rfl⟩:=Prod.mk.inj (sJ h)
   exact ⟨⟨by constructor <;> simp[zG],by constructor <;> simp[zG]⟩,by constructor <;> simp⟩
  | some f=>
   rw[hj] at h;dsimp only at h;have hf:=z3b (w:=w) (S:=Lt w) (fun j hj=>by
    obtain ⟨i,hi,rfl⟩:=List.getElem_of_mem hj;obtain ⟨_,_,_,_,ho,_⟩:=hl.r3.elJ hi;exact ⟨ho.1,ho.2⟩) hj
   have hz:=y0v l.l f;split at h
   ·obtain ⟨rfl,rfl⟩:=Prod.mk.inj (sJ h);exact ⟨⟨by constructor <;> simp[zG],by constructor <;> simp[zG]⟩,by constructor <;> omega⟩
   ·split at h
    ·obtain ⟨rfl,rfl⟩:=Prod.mk.inj (sJ h);exact ⟨⟨by constructor <;> simp[zG],by constructor <;> simp[zG]⟩,by constructor <;> simp⟩
    ·split at h
     ·cases h
     ·split at h
      ·rw[Option.map_eq_some_iff] at h;obtain ⟨s',hs,hsg⟩:=h;obtain ⟨rfl,rfl⟩:=Prod.mk.inj hsg;exact ⟨x6h hs hf.1,by constructor <;> simp⟩
      ·split at h
       ·cases h
       ·exact y9h hl n h
def x02 (N:Nat) (w:World):Nat→Prop:=fun b=>N≤b∧Sep w 56 w.heap.size b
theorem z3u {α:Type} {c:Cod α} {w:World} {base N:Nat} {e:TypeId} {A:Option Addr} {cap:Nat} {l:List α} (h:z09 c w base e (.slice A l.length cap) l 0) (hT:e≠56) (hN:N≤base):(l.length≤maxLen∧l.length≤cap)∧RdS c w (x02 N w) A l:=by
 obtain ⟨A',cap',he,hn,hx⟩:=h.rds (S:=x02 N w) (fun b cs hb hq=>⟨by omega,z0j hb,fun cs' fr hx=>by rw[hb] at hx;simp only[qE,Obj.cells.injEq] at hx;exact hT hx.2.1⟩) (fun b hb=>absurd hb.1 (Nat.not_lt_zero _));simp only[Value.slice.injEq] at he;obtain ⟨rfl,-,rfl⟩:=he;exact ⟨hn,hx⟩
structure FkJ (l:LV) (W8 w:World) (u:z2v) (wr:World):Prop where
 sz:W8.heap.size≤wr.heap.size
 g1:∃ cs,W8.heap[w.heap.size+1]? = some (.cells cs 56 (0,0))
 kp:∀ b,Sep W8 56 W8.heap.size b→wr.heap[b]? = W8.heap[b]?
 o:RvO u
 r1:RdS z1h W8 (x02 w.heap.size W8) u.A1 u.r.path
 r2:RdS z2x W8 (x02 w.heap.size W8) u.A2 u.r.pts
 r3:RdS cI W8 (x02 w.heap.size W8) u.A3 u.r.secs
 r4:RdS z1h W8 (x02 w.heap.size W8) u.A4 u.r.over
 r5:RdS z2x W8 (x02 w.heap.size W8) u.A5 u.r.opts
 r6:RdS cI W8 (x02 w.heap.size W8) u.A6 u.r.osecs
 bl:Blk wr w.heap.size 28 (z1c l)
 bx:Blk wr (w.heap.size+1) 56 (z0e u)
 bz:Blk wr (w.heap.size+1+1) 56 #[.string (ByteArray.mk #[]),.int .i64 0,.int .i64 0,.slice none 0 0,.slice none 0 0,.slice none 0 0,.int .i64 0,.int .i64 0,.slice none 0 0,.slice none 0 0,.slice none 0 0,.slice none 0 0,.slice none 0 0,.slice none 0 0]
 o7:z09 z2x wr W8.heap.size 78 (.slice u.A7 u.r.flk.length u.c7) u.r.flk 0
 o8:z09 cI wr W8.heap.size 3 (.slice u.A8 u.r.grd.length u.c8) u.r.grd 0
 o9:z09 y1z wr W8.heap.size 90 (.slice u.A9 u.r.gap.length u.c9) u.r.gap 0
 w8:w.heap.size+1+1 < W8.heap.size
 bel:Below w.heap.size w wr
section
variable {l:LV} {W8 w:World} {u:z2v} {wr w':World}
theorem FkJ.now (h:FkJ l W8 w u wr) (hb:Below wr.heap.size wr w'):FkJ l W8 w u w':=
 ⟨nR h.sz hb.size,h.g1,fun b hs=>(hb.block b (nT hs.1 h.sz)).trans (h.kp b hs),h.o,h.r1,h.r2,h.r3,h.r4,h.r5,h.r6,h.bl.now hb,h.bx.now hb,h.bz.now hb,h.o7.now hb,h.o8.now hb,h.o9.now hb,h.w8,z00 h.bel h.bel.size hb⟩
theorem FkJ.sep {α:Type} {c:Cod α} {A:Option Addr} {m:List α} (h:FkJ l W8 w u wr) (hr:RdS c W8 (Sep W8 56 W8.heap.size) A m):RdS c wr (Lt wr) A m:=(hr.keep fun p hp=>z0k (h.kp _ hp)).more fun b hb=>nT hb.1 h.sz
theorem FkJ.rv (h:FkJ l W8 w u wr):RvR wr (Lt wr) u:=⟨h.o,h.sep (h.r1.more fun _ q=>q.2),h.sep (h.r2.more fun _ q=>q.2),h.sep (h.r3.more fun _ q=>q.2),h.sep (h.r4.more fun _ q=>q.2),h.sep (h.r5.more fun _ q=>q.2),h.sep (h.r6.more fun _ q=>q.2),h.o7.rdn.2.more fun b h=>h.2,h.o8.rdn.2.more fun b h=>h.2,h.o9.rdn.2.more fun b h=>h.2⟩
theorem FkJ.j0g {α:Type} {c:Cod α} {A:Option Addr} {m:List α} (h:FkJ l W8 w u wr) (hr:RdS c W8 (x02 w.heap.size W8) A m):RdS c wr (x02 w.heap.size wr) A m:=(hr.keep fun p hp=>z0k (h.kp _ hp.2)).more fun b hb=>⟨hb.1,nT hb.2.1 h.sz,fun cs fr he=>hb.2.2 cs fr (by rw[←h.kp b hb.2];exact he)⟩
theorem FkJ.rvR (h:FkJ l W8 w u wr):RvR wr (x02 w.heap.size wr) u:=have hw:w.heap.size≤W8.heap.size:=by have:=h.w8;omega
 ⟨h.o,h.j0g h.r1,h.j0g h.r2,h.j0g h.r3,h.j0g h.r4,h.j0g h.r5,h.j0g h.r6,(z3u h.o7 (by decide) hw).2,(z3u h.o8 (by decide) hw).2,(z3u h.o9 (by decide) hw).2⟩
theorem FkJ.lt (h:FkJ l W8 w u wr):w.heap.size+1 < W8.heap.size∧w.heap.size≤W8.heap.size∧w.heap.size≤wr.heap.size:=⟨by have:=h.w8;omega,by have:=h.w8;omega,h.bel.size⟩
theorem FkJ.j9q (h:FkJ l W8 w u wr) {m:List Stg} {A':Option Addr} {c':Nat} (hf:Frm W8.heap.size 78 wr w') (ho:z09 z2x w' W8.heap.size 78 (.slice A' m.length c') m 0):FkJ l W8 w { u with r:={ u.r with flk:=m },A7:=A',c7:=c' } (w'.setCell ⟨w.heap.size+1,11,none⟩ (.slice A' m.length c')):=by
 have hbx:=hf.blk h.bx (by decide);obtain ⟨h1,h2,h3⟩:=h.lt;have hne:∀ b,Sep W8 56 W8.heap.size b→b≠w.heap.size+1:=fun b hb he=>by
  obtain ⟨cs,hcs⟩:=h.g1;exact hb.2 cs (0,0) (he▸hcs)
 exact ⟨nR h.sz (nR hf.size (by simp)),h.g1,fun b hb=>(Below.heap_setCell _ _ _ b (hne b hb)).trans ((hf.low b hb.1 (nT hb.1 h.sz)).trans (h.kp b hb)),⟨h.o.nm,h.o.ent,h.o.ext,h.o.app,h.o.len,h.o.n1,h.o.n2,h.o.n3,h.o.n4,h.o.n5,h.o.n6,ho.rdn.1,h.o.n8,h.o.n9⟩,h.r1,h.r2,h.r3,h.r4,h.r5,h.r6,(hf.blk h.bl (by decide)).far (show w.heap.size≠w.heap.size+1 by omega) _,hbx.set 11 _,(hf.blk h.bz (by decide)).far (show w.heap.size+1+1≠w.heap.size+1 by omega) _,ho.set (w.heap.size+1) 11 _ 56 _ hbx (by decide) nZ,(h.o8.frm hf (by decide) nZ).set (w.heap.size+1) 11 _ 56 _ hbx (by decide) nZ,(h.o9.frm hf (by decide) nZ).set (w.heap.size+1) 11 _ 56 _ hbx (by decide) nZ,h.w8,(hf.keeps h2 h3 h.bel).setCell (p:=⟨w.heap.size+1,11,none⟩) (show w.heap.size≤w.heap.size+1 by omega) _⟩
theorem FkJ.j9r (h:FkJ l W8 w u wr) {m:List Int} {A':Option Addr} {c':Nat} (hf:Frm W8.heap.size 3 wr w') (ho:z09 cI w' W8.heap.size 3 (.slice A' m.length c') m 0):FkJ l W8 w { u with r:={ u.r with grd:=m },A8:=A',c8:=c' } (w'.setCell ⟨w.heap.size+1,12,none⟩ (.slice A' m.length c')):=by
 have hbx:=hf.blk h.bx (by decide);obtain ⟨h1,h2,h3⟩:=h.lt;have hne:∀ b,Sep W8 56 W8.heap.size b→b≠w.heap.size+1:=fun b hb he=>by
  obtain ⟨cs,hcs⟩:=h.g1;exact hb.2 cs (0,0) (he▸hcs)
 exact ⟨nR h.sz (nR hf.size (by simp)),h.g1,fun b hb=>(Below.heap_setCell _ _ _ b (hne b hb)).trans ((hf.low b hb.1 (nT hb.1 h.sz)).trans (h.kp b hb)),⟨h.o.nm,h.o.ent,h.o.ext,h.o.app,h.o.len,h.o.n1,h.o.n2,h.o.n3,h.o.n4,h.o.n5,h.o.n6,h.o.n7,ho.rdn.1,h.o.n9⟩,h.r1,h.r2,h.r3,h.r4,h.r5,h.r6,(hf.blk h.bl (by decide)).far (show w.heap.size≠w.heap.size+1 by omega) _,hbx.set 12 _,(hf.blk h.bz (by decide)).far (show w.heap.size+1+1≠w.heap.size+1 by omega) _,(h.o7.frm hf (by decide) nZ).set (w.heap.size+1) 12 _ 56 _ hbx (by decide) nZ,ho.set (w.heap.size+1) 12 _ 56 _ hbx (by decide) nZ,(h.o9.frm hf (by decide) nZ).set (w.heap.size+1) 12 _ 56 _ hbx (by decide) nZ,h.w8,(hf.keeps h2 h3 h.bel).setCell (p:=⟨w.heap.size+1,12,none⟩) (show w.heap.size≤w.heap.size+1 by omega) _⟩
theorem FkJ.k09 (h:FkJ l W8 w u wr) {m:List z0o} {A':Option Addr} {c':Nat} (hf:Frm W8.heap.size 90 wr w') (ho:z09 y1z w' W8.heap.size 90 (.slice A' m.length c') m 0):FkJ l W8 w { u with r:={ u.r with gap:=m },A9:=A',c9:=c' } (w'.setCell ⟨w.heap.size+1,13,none⟩ (.slice A' m.length c')):=by
 have hbx:=hf.blk h.bx (by decide);obtain ⟨h1,h2,h3⟩:=h.lt;have hne:∀ b,Sep W8 56 W8.heap.size b→b≠w.heap.size+1:=fun b hb he=>by
  obtain ⟨cs,hcs⟩:=h.g1;exact hb.2 cs (0,0) (he▸hcs)
 exact ⟨nR h.sz (nR hf.size (by simp)),h.g1,fun b hb=>(Below.heap_setCell _ _ _ b (hne b hb)).trans ((hf.low b hb.1 (nT hb.1 h.sz)).trans (h.kp b hb)),⟨h.o.nm,h.o.ent,h.o.ext,h.o.app,h.o.len,h.o.n1,h.o.n2,h.o.n3,h.o.n4,h.o.n5,h.o.n6,h.o.n7,h.o.n8,ho.rdn.1⟩,h.r1,h.r2,h.r3,h.r4,h.r5,h.r6,(hf.blk h.bl (by decide)).far (show w.heap.size≠w.heap.size+1 by omega) _,hbx.set 13 _,(hf.blk h.bz (by decide)).far (show w.heap.size+1+1≠w.heap.size+1 by omega) _,(h.o7.frm hf (by decide) nZ).set (w.heap.size+1) 13 _ 56 _ hbx (by decide) nZ,(h.o8.frm hf (by decide) nZ).set (w.heap.size+1) 13 _ 56 _ hbx (by decide) nZ,ho.set (w.heap.size+1) 13 _ 56 _ hbx (by decide) nZ,h.w8,(hf.keeps h2 h3 h.bel).setCell (p:=⟨w.heap.size+1,13,none⟩) (show w.heap.size≤w.heap.size+1 by omega) _⟩
end
def FkP (l:Lay) (r0:Rou) (st:List Stp) (k:Nat) (r:Rou):Prop:=r=((st.take k).flatMap (y1x l)).foldl (z90 l) r0∧r.flk.length+r.grd.length+r.gap.length≤4*k
def FkQ (l:Lay) (r1:Rou) (es:List z0o) (n j:Nat) (r:Rou):Prop:=r=(es.take j).foldl (z90 l) r1∧r.flk.length+r.grd.length+r.gap.length≤n+j
theorem FkP.zero {l:Lay} {r0:Rou} {st:List Stp} (h1:r0.flk=[]) (h2:r0.grd=[]) (h3:r0.gap=[]):FkP l r0 st 0 r0:=⟨by simp,by rw[h1,h2,h3];simp⟩
theorem FkQ.zero {l:Lay} {r1:Rou} {es:List z0o} {n:Nat} (h:r1.flk.length+r1.grd.length+r1.gap.length≤n):FkQ l r1 es n 0 r1:=⟨by simp,by omega⟩
theorem FkQ.step {l:Lay} {r1 r:Rou} {es:List z0o} {n j:Nat} (h:FkQ l r1 es n j r) (hj:j < es.length) {r':Rou} (he:z90 l r es[j]=r') (hl:r'.flk.length+r'.grd.length+r'.gap.length≤r.flk.length+r.grd.length+r.gap.length+1):FkQ l r1 es n (j+1) r':=by
 obtain ⟨h1,h2⟩:=h;refine ⟨?_,by omega⟩;rw[tqS hj,List.foldl_append,←h1];exact he.symm
theorem y6r (l:Lay) (s:Stp):(y1x l s).length≤4:=by
 cases h:z2w l s.el with
 | false=>rw[j04 h];simp
 | true=>
  cases hn:z2a (z0s l s.el) s.inn s.out with
  | none=>rw[y8b h hn];simp
  | some q=>
   rw[y8c h hn];have:=y6a (z0s l s.el);exact nR (y8a _ _) (by omega)
theorem FkQ.out {l:Lay} {r0 r1 r:Rou} {st:List Stp} {k j:Nat} (hk:k < st.length) (h0:FkP l r0 st k r1) (h:FkQ l r1 (y1x l st[k]) (4*k) j r) (hj:¬j < (y1x l st[k]).length) (hj2:j≤(y1x l st[k]).length):FkP l r0 st (k+1) r:=by
 obtain ⟨h1,h2⟩:=h;have h4:=y6r l st[k];refine ⟨?_,by omega⟩;rw[tqS hk,List.flatMap_append,List.foldl_append,←h0.1,h1,tlL (by omega)];simp
theorem FkP.out {l:Lay} {r0 r:Rou} {st:List Stp} {k:Nat} (h:FkP l r0 st k r) (hk:¬k < st.length):r=(st.flatMap (y1x l)).foldl (z90 l) r0:=by
 rw[h.1,tlL (by omega)]
end Go.Proofs.YtpenlfedkacglaaGreatDoor
