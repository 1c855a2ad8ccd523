import Derived.Test.YtpenlfedkacglaaGreatDoorL18
set_option maxRecDepth 100000
set_option maxHeartbeats 40000000
set_option linter.all false
namespace Go.Proofs.YtpenlfedkacglaaGreatDoor
open Go.RowKit
attribute [local go_sem] z05 z07 z01 z02
attribute [-go_sem] run_equalIn_agg
attribute [-go_sem] loadCellsFrom
def ApE (x:Value) (u:z2v):Prop:=∀ b,x.ownBlock=some b→(Value.slice u.A9 u.r.gap.length u.c9).ownBlock≠some b
theorem x7e {w:World} {S:Nat→Prop} {b off:Nat} {l:List z0o} (h:RdS y1z w S (some ⟨b,off,none⟩) l) {i:Nat} (hi:i < l.length) {s:z0o} (hs:l[i]=s):Sem.run Tryz.prog (loadCellsFrom ⟨b,off+i*2,none⟩ 0 2 #[]) w=.ok #[.int .i64 s.el,.int .i64 s.sd] w:=by
 obtain ⟨b',off',hA,-,-,y0,y1⟩:=h.elD hi;simp only[qE,Addr.mk.injEq,and_true] at hA;obtain ⟨rfl,rfl⟩:=hA;rw[hs] at y0 y1
 exact z2e (b:=b) (o:=off+i*2) (n:=2) (ys:=[.int .i64 s.el,.int .i64 s.sd]) rfl (fun j u hj=>match j,hj with
  | 0,hj=>(sJ hj)▸y0
  | 1,hj=>(sJ hj)▸y1)
theorem y56 (l:LV) (v:z2v) (w:World) (E:y6n w) (hl:LvR w l) (hr:RvR w (Lt w) v) (h1:v.r.path.length≤1000) (h2:v.r.pts.length≤30000) (h3:v.r.secs.length≤30000) (h4:v.r.over.length≤1000) (h5:v.r.opts.length≤30000) (h6:v.r.osecs.length≤30000):Calls Tryz.prog 15 #[lvA l,.agg (z0e v)] w fun e w'=>∃ rv:z2v,e=.returned (.agg (z0e rv))∧rv.r=z8z l.l v.r∧RvR w' (x02 w.heap.size w') rv∧Below w.heap.size w w':=by
 obtain ⟨iE,hiE,hE0,hE1,hE2⟩:=info_parts z7j;obtain ⟨iG,hiG,hG0,hG1,hG2⟩:=info_parts z3k;obtain ⟨iI,hiI,hI0,hI1,hI2⟩:=info_parts z3f;obtain ⟨W2,hW2⟩:∃ W,W=((w.alloc (.cells (z1c l) 28)).alloc (.cells (z0e v) 56)).alloc (.cells #[.string (ByteArray.mk #[]),.int .i64 0,.int .i64 0,.slice none 0 0,.slice none 0 0,.slice none 0 0,.int .i64 0,.int .i64 0,.slice none 0 0,.slice none 0 0,.slice none 0 0,.slice none 0 0,.slice none 0 0,.slice none 0 0] 56):=⟨_,rfl⟩
 have hb:Below w.heap.size w W2:=by rw[hW2];exact ((bQ.alloc nL _).alloc (by simp) _).alloc (by simp;omega) _
 have hz:Blk W2 (w.heap.size+1+1) 56 #[.string (ByteArray.mk #[]),.int .i64 0,.int .i64 0,.slice none 0 0,.slice none 0 0,.slice none 0 0,.int .i64 0,.int .i64 0,.slice none 0 0,.slice none 0 0,.slice none 0 0,.slice none 0 0,.slice none 0 0,.slice none 0 0]:=by rw[hW2];exact Blk.new _ _ _ _ (by simp)
 have hg:Blk W2 (w.heap.size+1) 56 (z0e v):=by rw[hW2];exact (Blk.new _ _ _ _ (by simp)).alloc _
 have hx:Blk W2 w.heap.size 28 (z1c l):=by rw[hW2];exact ((Blk.new _ _ _ _ rfl).alloc _).alloc _
 have HFK:=hE (show z8z l.l v.r = { ((v.r.path++v.r.over).flatMap (y1x l.l)).foldl (z90 l.l) { v.r with flk:=[],grd:=[],gap:=[] } with flk:=z0v (z4l ltG (((v.r.path++v.r.over).flatMap (y1x l.l)).foldl (z90 l.l) { v.r with flk:=[],grd:=[],gap:=[] }).flk),grd:=z0v (z4l ltI (((v.r.path++v.r.over).flatMap (y1x l.l)).foldl (z90 l.l) { v.r with flk:=[],grd:=[],gap:=[] }).grd) } from rfl);unfold lvA;go_enter Tryz.func15,Tryz.ntmps15
 go_upto_region 1 with (fail)
 rw[←hW2];clear hW2;have r3:=hg.cell 3;have rl:=hg.lt;simp only[gqA,gqZ,gqS] at r3;have HC:=hE (z5m v.r.path v.A1 v.c1 W2 (hr.now hb).r1 (by omega));go_wp2_with fail
 refine HC.out.mono ?_;rintro e w1 ⟨u,rfl,ho3,hq⟩;clear HC r3 rl;obtain ⟨A1,c1,rfl⟩:=ho3.form;have hg:=hg.now hq;have hx:=hx.now hq;have hz:=hz.now hq;have ho3:=ho3.lower (show w.heap.size≤W2.heap.size from hb.size);have hb:=z00 hb hb.size hq;clear hq;have r3:=hg.cell 3;have rf:=hg.free;have rl:=hg.lt;simp only[gqA,gqZ,gqS] at r3;have hgX:Blk (w1.setCell ⟨w.heap.size+1,3,none⟩ (.slice A1 v.r.path.length c1)) (w.heap.size+1) 56 #[.string (bs v.r.name),.int .i64 v.r.ent,.int .i64 v.r.ext,.slice A1 v.r.path.length c1,.slice v.A2 v.r.pts.length v.c2,.slice v.A3 v.r.secs.length v.c3,.int .i64 v.r.app,.int .i64 v.r.len,.slice v.A4 v.r.over.length v.c4,.slice v.A5 v.r.opts.length v.c5,.slice v.A6 v.r.osecs.length v.c6,.slice v.A7 v.r.flk.length v.c7,.slice v.A8 v.r.grd.length v.c8,.slice v.A9 v.r.gap.length v.c9]:=hg.set 3 _;have hfr:Frm (w.heap.size+1) 56 w1 (w1.setCell ⟨w.heap.size+1,3,none⟩ (.slice A1 v.r.path.length c1)):=z0l (w:=w1) [.slice A1 v.r.path.length c1] 3 hg nL;have hxX:=hfr.blk hx (by decide);have hzX:Blk (w1.setCell ⟨w.heap.size+1,3,none⟩ (.slice A1 v.r.path.length c1)) (w.heap.size+1+1) 56 #[.string (ByteArray.mk #[]),.int .i64 0,.int .i64 0,.slice none 0 0,.slice none 0 0,.slice none 0 0,.int .i64 0,.int .i64 0,.slice none 0 0,.slice none 0 0,.slice none 0 0,.slice none 0 0,.slice none 0 0,.slice none 0 0]:=hz.far (show w.heap.size+1+1≠w.heap.size+1 by omega) _;have hbX:=hfr.keeps (show w.heap.size≤w.heap.size+1 by omega) hb.size hb;have ho3X:=ho3.frm hfr (by decide) nZ;obtain ⟨V1,hWn⟩:∃ W,W=w1.setCell ⟨w.heap.size+1,3,none⟩ (.slice A1 v.r.path.length c1):=⟨_,rfl⟩
 rw[←hWn] at hgX hxX hzX hbX ho3X;have HNX:=hE (aIq hgX (aIq hxX (aIq hzX hbX)));clear hgX hxX hzX hbX hfr;have HO3:=hE ho3X;go_upto_region 2 with (fail)
 rw[←hWn];clear hWn ho3X hg hx hz hb ho3;obtain ⟨hg,hx,hz,hb⟩:=HNX.out;clear HNX;have ho3:=HO3.out;clear HO3;clear r3 rf rl;have r4:=hg.cell 4;have rl:=hg.lt;simp only[gqA,gqZ,gqS] at r4;have HC:=hE (z4j v.r.pts v.A2 v.c2 V1 (hr.now hb).r2 (by omega));go_wp2_with fail
 refine HC.out.mono ?_;rintro e w2 ⟨u,rfl,ho4,hq⟩;clear HC r4 rl;obtain ⟨A2,c2,rfl⟩:=ho4.form;have hg:=hg.now hq;have hx:=hx.now hq;have hz:=hz.now hq;have ho3:=ho3.now hq;have ho4:=ho4.lower (show w.heap.size≤V1.heap.size from hb.size);have hb:=z00 hb hb.size hq;clear hq;have r4:=hg.cell 4;have rf:=hg.free;have rl:=hg.lt;simp only[gqA,gqZ,gqS] at r4;have hgX:Blk (w2.setCell ⟨w.heap.size+1,4,none⟩ (.slice A2 v.r.pts.length c2)) (w.heap.size+1) 56 #[.string (bs v.r.name),.int .i64 v.r.ent,.int .i64 v.r.ext,.slice A1 v.r.path.length c1,.slice A2 v.r.pts.length c2,.slice v.A3 v.r.secs.length v.c3,.int .i64 v.r.app,.int .i64 v.r.len,.slice v.A4 v.r.over.length v.c4,.slice v.A5 v.r.opts.length v.c5,.slice v.A6 v.r.osecs.length v.c6,.slice v.A7 v.r.flk.length v.c7,.slice v.A8 v.r.grd.length v.c8,.slice v.A9 v.r.gap.length v.c9]:=hg.set 4 _;have hfr:Frm (w.heap.size+1) 56 w2 (w2.setCell ⟨w.heap.size+1,4,none⟩ (.slice A2 v.r.pts.length c2)):=z0l (w:=w2) [.slice A2 v.r.pts.length c2] 4 hg nL;have hxX:=hfr.blk hx (by decide);have hzX:Blk (w2.setCell ⟨w.heap.size+1,4,none⟩ (.slice A2 v.r.pts.length c2)) (w.heap.size+1+1) 56 #[.string (ByteArray.mk #[]),.int .i64 0,.int .i64 0,.slice none 0 0,.slice none 0 0,.slice none 0 0,.int .i64 0,.int .i64 0,.slice none 0 0,.slice none 0 0,.slice none 0 0,.slice none 0 0,.slice none 0 0,.slice none 0 0]:=hz.far (show w.heap.size+1+1≠w.heap.size+1 by omega) _;have hbX:=hfr.keeps (show w.heap.size≤w.heap.size+1 by omega) hb.size hb;have ho3X:=ho3.frm hfr (by decide) nZ;have ho4X:=ho4.frm hfr (by decide) nZ;obtain ⟨V2,hWn⟩:∃ W,W=w2.setCell ⟨w.heap.size+1,4,none⟩ (.slice A2 v.r.pts.length c2):=⟨_,rfl⟩
 rw[←hWn] at hgX hxX hzX hbX ho3X ho4X;have HNX:=hE (aIq hgX (aIq hxX (aIq hzX hbX)));clear hgX hxX hzX hbX hfr;have HO3:=hE ho3X;have HO4:=hE ho4X;go_upto_region 3 with (fail)
 rw[←hWn];clear hWn ho3X ho4X hg hx hz hb ho3 ho4;obtain ⟨hg,hx,hz,hb⟩:=HNX.out;clear HNX;have ho3:=HO3.out;clear HO3;have ho4:=HO4.out;clear HO4;clear r4 rf rl;have r5:=hg.cell 5;have rl:=hg.lt;simp only[gqA,gqZ,gqS] at r5;have HC:=hE (z2j v.r.secs v.A3 v.c3 V2 (hr.now hb).r3 (by omega));go_wp2_with fail
 refine HC.out.mono ?_;rintro e w3 ⟨u,rfl,ho5,hq⟩;clear HC r5 rl;obtain ⟨A3,c3,rfl⟩:=ho5.form;have hg:=hg.now hq;have hx:=hx.now hq;have hz:=hz.now hq;have ho3:=ho3.now hq;have ho4:=ho4.now hq;have ho5:=ho5.lower (show w.heap.size≤V2.heap.size from hb.size);have hb:=z00 hb hb.size hq;clear hq;have r5:=hg.cell 5;have rf:=hg.free;have rl:=hg.lt;simp only[gqA,gqZ,gqS] at r5;have hgX:Blk (w3.setCell ⟨w.heap.size+1,5,none⟩ (.slice A3 v.r.secs.length c3)) (w.heap.size+1) 56 #[.string (bs v.r.name),.int .i64 v.r.ent,.int .i64 v.r.ext,.slice A1 v.r.path.length c1,.slice A2 v.r.pts.length c2,.slice A3 v.r.secs.length c3,.int .i64 v.r.app,.int .i64 v.r.len,.slice v.A4 v.r.over.length v.c4,.slice v.A5 v.r.opts.length v.c5,.slice v.A6 v.r.osecs.length v.c6,.slice v.A7 v.r.flk.length v.c7,.slice v.A8 v.r.grd.length v.c8,.slice v.A9 v.r.gap.length v.c9]:=hg.set 5 _;have hfr:Frm (w.heap.size+1) 56 w3 (w3.setCell ⟨w.heap.size+1,5,none⟩ (.slice A3 v.r.secs.length c3)):=z0l (w:=w3) [.slice A3 v.r.secs.length c3] 5 hg nL;have hxX:=hfr.blk hx (by decide);have hzX:Blk (w3.setCell ⟨w.heap.size+1,5,none⟩ (.slice A3 v.r.secs.length c3)) (w.heap.size+1+1) 56 #[.string (ByteArray.mk #[]),.int .i64 0,.int .i64 0,.slice none 0 0,.slice none 0 0,.slice none 0 0,.int .i64 0,.int .i64 0,.slice none 0 0,.slice none 0 0,.slice none 0 0,.slice none 0 0,.slice none 0 0,.slice none 0 0]:=hz.far (show w.heap.size+1+1≠w.heap.size+1 by omega) _;have hbX:=hfr.keeps (show w.heap.size≤w.heap.size+1 by omega) hb.size hb;have ho3X:=ho3.frm hfr (by decide) nZ;have ho4X:=ho4.frm hfr (by decide) nZ;have ho5X:=ho5.frm hfr (by decide) nZ;obtain ⟨V3,hWn⟩:∃ W,W=w3.setCell ⟨w.heap.size+1,5,none⟩ (.slice A3 v.r.secs.length c3):=⟨_,rfl⟩
 rw[←hWn] at hgX hxX hzX hbX ho3X ho4X ho5X;have HNX:=hE (aIq hgX (aIq hxX (aIq hzX hbX)));clear hgX hxX hzX hbX hfr;have HO3:=hE ho3X;have HO4:=hE ho4X;have HO5:=hE ho5X;go_upto_region 4 with (fail)
 rw[←hWn];clear hWn ho3X ho4X ho5X hg hx hz hb ho3 ho4 ho5;obtain ⟨hg,hx,hz,hb⟩:=HNX.out;clear HNX;have ho3:=HO3.out;clear HO3;have ho4:=HO4.out;clear HO4;have ho5:=HO5.out;clear HO5;clear r5 rf rl;have r8:=hg.cell 8;have rl:=hg.lt;simp only[gqA,gqZ,gqS] at r8;have HC:=hE (z5m v.r.over v.A4 v.c4 V3 (hr.now hb).r4 (by omega));go_wp2_with fail
 refine HC.out.mono ?_;rintro e w4 ⟨u,rfl,ho8,hq⟩;clear HC r8 rl;obtain ⟨A4,c4,rfl⟩:=ho8.form;have hg:=hg.now hq;have hx:=hx.now hq;have hz:=hz.now hq;have ho3:=ho3.now hq;have ho4:=ho4.now hq;have ho5:=ho5.now hq;have ho8:=ho8.lower (show w.heap.size≤V3.heap.size from hb.size);have hb:=z00 hb hb.size hq;clear hq;have r8:=hg.cell 8;have rf:=hg.free;have rl:=hg.lt;simp only[gqA,gqZ,gqS] at r8;have hgX:Blk (w4.setCell ⟨w.heap.size+1,8,none⟩ (.slice A4 v.r.over.length c4)) (w.heap.size+1) 56 #[.string (bs v.r.name),.int .i64 v.r.ent,.int .i64 v.r.ext,.slice A1 v.r.path.length c1,.slice A2 v.r.pts.length c2,.slice A3 v.r.secs.length c3,.int .i64 v.r.app,.int .i64 v.r.len,.slice A4 v.r.over.length c4,.slice v.A5 v.r.opts.length v.c5,.slice v.A6 v.r.osecs.length v.c6,.slice v.A7 v.r.flk.length v.c7,.slice v.A8 v.r.grd.length v.c8,.slice v.A9 v.r.gap.length v.c9]:=hg.set 8 _;have hfr:Frm (w.heap.size+1) 56 w4 (w4.setCell ⟨w.heap.size+1,8,none⟩ (.slice A4 v.r.over.length c4)):=z0l (w:=w4) [.slice A4 v.r.over.length c4] 8 hg nL;have hxX:=hfr.blk hx (by decide);have hzX:Blk (w4.setCell ⟨w.heap.size+1,8,none⟩ (.slice A4 v.r.over.length c4)) (w.heap.size+1+1) 56 #[.string (ByteArray.mk #[]),.int .i64 0,.int .i64 0,.slice none 0 0,.slice none 0 0,.slice none 0 0,.int .i64 0,.int .i64 0,.slice none 0 0,.slice none 0 0,.slice none 0 0,.slice none 0 0,.slice none 0 0,.slice none 0 0]:=hz.far (show w.heap.size+1+1≠w.heap.size+1 by omega) _;have hbX:=hfr.keeps (show w.heap.size≤w.heap.size+1 by omega) hb.size hb;have ho3X:=ho3.frm hfr (by decide) nZ;have ho4X:=ho4.frm hfr (by decide) nZ;have ho5X:=ho5.frm hfr (by decide) nZ;have ho8X:=ho8.frm hfr (by decide) nZ;obtain ⟨V4,hWn⟩:∃ W,W=w4.setCell ⟨w.heap.size+1,8,none⟩ (.slice A4 v.r.over.length c4):=⟨_,rfl⟩
 rw[←hWn] at hgX hxX hzX hbX ho3X ho4X ho5X ho8X;have HNX:=hE (aIq hgX (aIq hxX (aIq hzX hbX)));clear hgX hxX hzX hbX hfr;have HO3:=hE ho3X;have HO4:=hE ho4X;have HO5:=hE ho5X;have HO8:=hE ho8X;go_upto_region 5 with (fail)
 rw[←hWn];clear hWn ho3X ho4X ho5X ho8X hg hx hz hb ho3 ho4 ho5 ho8;obtain ⟨hg,hx,hz,hb⟩:=HNX.out;clear HNX;have ho3:=HO3.out;clear HO3;have ho4:=HO4.out;clear HO4;have ho5:=HO5.out;clear HO5;have ho8:=HO8.out;clear HO8;clear r8 rf rl;have r9:=hg.cell 9;have rl:=hg.lt;simp only[gqA,gqZ,gqS] at r9;have HC:=hE (z4j v.r.opts v.A5 v.c5 V4 (hr.now hb).r5 (by omega));go_wp2_with fail
 refine HC.out.mono ?_;rintro e w5 ⟨u,rfl,ho9,hq⟩;clear HC r9 rl;obtain ⟨A5,c5,rfl⟩:=ho9.form;have hg:=hg.now hq;have hx:=hx.now hq;have hz:=hz.now hq;have ho3:=ho3.now hq;have ho4:=ho4.now hq;have ho5:=ho5.now hq;have ho8:=ho8.now hq;have ho9:=ho9.lower (show w.heap.size≤V4.heap.size from hb.size);have hb:=z00 hb hb.size hq;clear hq;have r9:=hg.cell 9;have rf:=hg.free;have rl:=hg.lt;simp only[gqA,gqZ,gqS] at r9;have hgX:Blk (w5.setCell ⟨w.heap.size+1,9,none⟩ (.slice A5 v.r.opts.length c5)) (w.heap.size+1) 56 #[.string (bs v.r.name),.int .i64 v.r.ent,.int .i64 v.r.ext,.slice A1 v.r.path.length c1,.slice A2 v.r.pts.length c2,.slice A3 v.r.secs.length c3,.int .i64 v.r.app,.int .i64 v.r.len,.slice A4 v.r.over.length c4,.slice A5 v.r.opts.length c5,.slice v.A6 v.r.osecs.length v.c6,.slice v.A7 v.r.flk.length v.c7,.slice v.A8 v.r.grd.length v.c8,.slice v.A9 v.r.gap.length v.c9]:=hg.set 9 _;have hfr:Frm (w.heap.size+1) 56 w5 (w5.setCell ⟨w.heap.size+1,9,none⟩ (.slice A5 v.r.opts.length c5)):=z0l (w:=w5) [.slice A5 v.r.opts.length c5] 9 hg nL;have hxX:=hfr.blk hx (by decide);have hzX:Blk (w5.setCell ⟨w.heap.size+1,9,none⟩ (.slice A5 v.r.opts.length c5)) (w.heap.size+1+1) 56 #[.string (ByteArray.mk #[]),.int .i64 0,.int .i64 0,.slice none 0 0,.slice none 0 0,.slice none 0 0,.int .i64 0,.int .i64 0,.slice none 0 0,.slice none 0 0,.slice none 0 0,.slice none 0 0,.slice none 0 0,.slice none 0 0]:=hz.far (show w.heap.size+1+1≠w.heap.size+1 by omega) _;have hbX:=hfr.keeps (show w.heap.size≤w.heap.size+1 by omega) hb.size hb;have ho3X:=ho3.frm hfr (by decide) nZ;have ho4X:=ho4.frm hfr (by decide) nZ;have ho5X:=ho5.frm hfr (by decide) nZ;have ho8X:=ho8.frm hfr (by decide) nZ;have ho9X:=ho9.frm hfr (by decide) nZ;obtain ⟨V5,hWn⟩:∃ W,W=w5.setCell ⟨w.heap.size+1,9,none⟩ (.slice A5 v.r.opts.length c5):=⟨_,rfl⟩
 rw[←hWn] at hgX hxX hzX hbX ho3X ho4X ho5X ho8X ho9X;have HNX:=hE (aIq hgX (aIq hxX (aIq hzX hbX)));clear hgX hxX hzX hbX hfr;have HO3:=hE ho3X;have HO4:=hE ho4X;have HO5:=hE ho5X;have HO8:=hE ho8X;have HO9:=hE ho9X;go_upto_region 6 with (fail)
 rw[←hWn];clear hWn ho3X ho4X ho5X ho8X ho9X hg hx hz hb ho3 ho4 ho5 ho8 ho9;obtain ⟨hg,hx,hz,hb⟩:=HNX.out;clear HNX;have ho3:=HO3.out;clear HO3;have ho4:=HO4.out;clear HO4;have ho5:=HO5.out;clear HO5;have ho8:=HO8.out;clear HO8;have ho9:=HO9.out;clear HO9;clear r9 rf rl;have r10:=hg.cell 10;have rl:=hg.lt;simp only[gqA,gqZ,gqS] at r10;have HC:=hE (z2j v.r.osecs v.A6 v.c6 V5 (hr.now hb).r6 (by omega));go_wp2_with fail
 refine HC.out.mono ?_;rintro e w6 ⟨u,rfl,ho10,hq⟩;clear HC r10 rl;obtain ⟨A6,c6,rfl⟩:=ho10.form;have hg:=hg.now hq;have hx:=hx.now hq;have hz:=hz.now hq;have ho3:=ho3.now hq;have ho4:=ho4.now hq;have ho5:=ho5.now hq;have ho8:=ho8.now hq;have ho9:=ho9.now hq;have ho10:=ho10.lower (show w.heap.size≤V5.heap.size from hb.size);have hb:=z00 hb hb.size hq;clear hq;have r10:=hg.cell 10;have rf:=hg.free;have rl:=hg.lt;simp only[gqA,gqZ,gqS] at r10;have hgX:Blk (w6.setCell ⟨w.heap.size+1,10,none⟩ (.slice A6 v.r.osecs.length c6)) (w.heap.size+1) 56 #[.string (bs v.r.name),.int .i64 v.r.ent,.int .i64 v.r.ext,.slice A1 v.r.path.length c1,.slice A2 v.r.pts.length c2,.slice A3 v.r.secs.length c3,.int .i64 v.r.app,.int .i64 v.r.len,.slice A4 v.r.over.length c4,.slice A5 v.r.opts.length c5,.slice A6 v.r.osecs.length c6,.slice v.A7 v.r.flk.length v.c7,.slice v.A8 v.r.grd.length v.c8,.slice v.A9 v.r.gap.length v.c9]:=hg.set 10 _;have hfr:Frm (w.heap.size+1) 56 w6 (w6.setCell ⟨w.heap.size+1,10,none⟩ (.slice A6 v.r.osecs.length c6)):=z0l (w:=w6) [.slice A6 v.r.osecs.length c6] 10 hg nL;have hxX:=hfr.blk hx (by decide);have hzX:Blk (w6.setCell ⟨w.heap.size+1,10,none⟩ (.slice A6 v.r.osecs.length c6)) (w.heap.size+1+1) 56 #[.string (ByteArray.mk #[]),.int .i64 0,.int .i64 0,.slice none 0 0,.slice none 0 0,.slice none 0 0,.int .i64 0,.int .i64 0,.slice none 0 0,.slice none 0 0,.slice none 0 0,.slice none 0 0,.slice none 0 0,.slice none 0 0]:=hz.far (show w.heap.size+1+1≠w.heap.size+1 by omega) _;have hbX:=hfr.keeps (show w.heap.size≤w.heap.size+1 by omega) hb.size hb;have ho3X:=ho3.frm hfr (by decide) nZ;have ho4X:=ho4.frm hfr (by decide) nZ;have ho5X:=ho5.frm hfr (by decide) nZ;have ho8X:=ho8.frm hfr (by decide) nZ;have ho9X:=ho9.frm hfr (by decide) nZ;have ho10X:=ho10.frm hfr (by decide) nZ;obtain ⟨V6,hWn⟩:∃ W,W=w6.setCell ⟨w.heap.size+1,10,none⟩ (.slice A6 v.r.osecs.length c6):=⟨_,rfl⟩
 rw[←hWn] at hgX hxX hzX hbX ho3X ho4X ho5X ho8X ho9X ho10X;have HNX:=hE (aIq hgX (aIq hxX (aIq hzX hbX)));clear hgX hxX hzX hbX hfr;have HO3:=hE ho3X;have HO4:=hE ho4X;have HO5:=hE ho5X;have HO8:=hE ho8X;have HO9:=hE ho9X;have HO10:=hE ho10X;go_upto_region 7 with (fail)
 rw[←hWn];clear hWn ho3X ho4X ho5X ho8X ho9X ho10X hg hx hz hb ho3 ho4 ho5 ho8 ho9 ho10;obtain ⟨hg,hx,hz,hb⟩:=HNX.out;clear HNX;have ho3:=HO3.out;clear HO3;have ho4:=HO4.out;clear HO4;have ho5:=HO5.out;clear HO5;have ho8:=HO8.out;clear HO8;have ho9:=HO9.out;clear HO9;have ho10:=HO10.out;clear HO10;clear r10 rf rl;have r11:=hg.cell 11;have r12:=hg.cell 12;have r13:=hg.cell 13;have rf:=hg.free;have rl:=hg.lt;simp only[gqA,gqZ,gqS] at r11 r12 r13;have hgX:Blk (((V6.setCell ⟨w.heap.size+1,11,none⟩ (.slice none 0 0)).setCell ⟨w.heap.size+1,12,none⟩ (.slice none 0 0)).setCell ⟨w.heap.size+1,13,none⟩ (.slice none 0 0)) (w.heap.size+1) 56 #[.string (bs v.r.name),.int .i64 v.r.ent,.int .i64 v.r.ext,.slice A1 v.r.path.length c1,.slice A2 v.r.pts.length c2,.slice A3 v.r.secs.length c3,.int .i64 v.r.app,.int .i64 v.r.len,.slice A4 v.r.over.length c4,.slice A5 v.r.opts.length c5,.slice A6 v.r.osecs.length c6,.slice none 0 0,.slice none 0 0,.slice none 0 0]:=((hg.set 11 _).set 12 _).set 13 _;have hfr:Frm (w.heap.size+1) 56 V6 (((V6.setCell ⟨w.heap.size+1,11,none⟩ (.slice none 0 0)).setCell ⟨w.heap.size+1,12,none⟩ (.slice none 0 0)).setCell ⟨w.heap.size+1,13,none⟩ (.slice none 0 0)):=z0l (w:=V6) [.slice none 0 0,.slice none 0 0,.slice none 0 0] 11 hg nL;have hxX:=hfr.blk hx (by decide);have hzX:Blk (((V6.setCell ⟨w.heap.size+1,11,none⟩ (.slice none 0 0)).setCell ⟨w.heap.size+1,12,none⟩ (.slice none 0 0)).setCell ⟨w.heap.size+1,13,none⟩ (.slice none 0 0)) (w.heap.size+1+1) 56 #[.string (ByteArray.mk #[]),.int .i64 0,.int .i64 0,.slice none 0 0,.slice none 0 0,.slice none 0 0,.int .i64 0,.int .i64 0,.slice none 0 0,.slice none 0 0,.slice none 0 0,.slice none 0 0,.slice none 0 0,.slice none 0 0]:=((hz.far (show w.heap.size+1+1≠w.heap.size+1 by omega) _).far (show w.heap.size+1+1≠w.heap.size+1 by omega) _).far (show w.heap.size+1+1≠w.heap.size+1 by omega) _;have hbX:=hfr.keeps (show w.heap.size≤w.heap.size+1 by omega) hb.size hb;have ho3X:=ho3.frm hfr (by decide) nZ;have ho4X:=ho4.frm hfr (by decide) nZ;have ho5X:=ho5.frm hfr (by decide) nZ;have ho8X:=ho8.frm hfr (by decide) nZ;have ho9X:=ho9.frm hfr (by decide) nZ;have ho10X:=ho10.frm hfr (by decide) nZ;obtain ⟨V7,hWn⟩:∃ W,W=(((V6.setCell ⟨w.heap.size+1,11,none⟩ (.slice none 0 0)).setCell ⟨w.heap.size+1,12,none⟩ (.slice none 0 0)).setCell ⟨w.heap.size+1,13,none⟩ (.slice none 0 0)):=⟨_,rfl⟩
 rw[←hWn] at hgX hxX hzX hbX ho3X ho4X ho5X ho8X ho9X ho10X;have HNX:=hE (aIq hgX (aIq hxX (aIq hzX hbX)));clear hgX hxX hzX hbX hfr;have HO3:=hE ho3X;have HO4:=hE ho4X;have HO5:=hE ho5X;have HO8:=hE ho8X;have HO9:=hE ho9X;have HO10:=hE ho10X;go_upto_region 8 with (fail)
 rw[←hWn];clear hWn ho3X ho4X ho5X ho8X ho9X ho10X hg hx hz hb ho3 ho4 ho5 ho8 ho9 ho10;obtain ⟨hg,hx,hz,hb⟩:=HNX.out;clear HNX;have ho3:=HO3.out;clear HO3;have ho4:=HO4.out;clear HO4;have ho5:=HO5.out;clear HO5;have ho8:=HO8.out;clear HO8;have ho9:=HO9.out;clear HO9;have ho10:=HO10.out;clear HO10;clear r11 r12 r13 rf rl;have r3:=hg.cell 3;have r8:=hg.cell 8;have rl:=hg.lt;simp only[gqA,gqZ,gqS] at r3 r8;obtain ⟨Wc,hWc⟩:∃ W,W=V7.alloc (.cells #[.slice A1 v.r.path.length c1,.slice A4 v.r.over.length c4] 52):=⟨_,rfl⟩
 have hq:Below V7.heap.size V7 Wc:=by rw[hWc];exact bQ.alloc nL _
 have hbc:Blk Wc V7.heap.size 52 #[.slice A1 v.r.path.length c1,.slice A4 v.r.over.length c4]:=by rw[hWc];exact Blk.new _ _ _ _ rfl
 have hg:=hg.now hq;have hx:=hx.now hq;have hz:=hz.now hq;have ho3:=ho3.now hq;have ho4:=ho4.now hq;have ho5:=ho5.now hq;have ho8:=ho8.now hq;have ho9:=ho9.now hq;have ho10:=ho10.now hq;have hb:=z00 hb hb.size hq;have HC:=hE (y3j [v.r.path,v.r.over] _ 2 Wc (y9s hbc hbc.lt ho3.rdn.1 ho8.rdn.1 (ho3.rdn.2.more fun b h=>h.2) (ho8.rdn.2.more fun b h=>h.2)) (by simp) (by intro l hl;simp at hl;rcases hl with rfl | rfl <;> omega));go_wp2_with fail
 rw[←hWc];clear hWc r3 r8 rl hq hbc;refine HC.out.mono ?_;rintro e w8 ⟨cv,rfl,hlow,hq⟩;clear HC;have hown:=(z5e z4b hlow).lower (show w.heap.size≤Wc.heap.size from hb.size);have hfl:[v.r.path,v.r.over].flatten=v.r.path++v.r.over:=by simp
 rw[hfl] at hown;have hg:=hg.now hq;have hx:=hx.now hq;have hz:=hz.now hq;have ho3:=ho3.now hq;have ho4:=ho4.now hq;have ho5:=ho5.now hq;have ho8:=ho8.now hq;have ho9:=ho9.now hq;have ho10:=ho10.now hq;have hb:=z00 hb hb.size hq;clear hlow hfl hq;obtain ⟨n1,s1⟩:=z3u (N:=w.heap.size) ho3 (by decide) nL;obtain ⟨n2,s2⟩:=z3u (N:=w.heap.size) ho4 (by decide) nL;obtain ⟨n3,s3⟩:=z3u (N:=w.heap.size) ho5 (by decide) nL;obtain ⟨n4,s4⟩:=z3u (N:=w.heap.size) ho8 (by decide) nL;obtain ⟨n5,s5⟩:=z3u (N:=w.heap.size) ho9 (by decide) nL;obtain ⟨n6,s6⟩:=z3u (N:=w.heap.size) ho10 (by decide) nL;have hstl:(v.r.path++v.r.over).length≤2000:=by rw[qL];omega
 obtain ⟨st,hst⟩:∃ st,v.r.path++v.r.over=st:=⟨_,rfl⟩
 rw[hst] at hown HFK hstl;obtain ⟨A0,c0,rfl⟩:=hown.form;obtain ⟨n0,s0⟩:=z2s (T:=56) hown (by decide);have HZZ:=hE hz;have hzl:=hz.lt;have hJ0:FkJ l w8 w { r:={ v.r with flk:=[],grd:=[],gap:=[] },A1:=A1,A2:=A2,A3:=A3,A4:=A4,A5:=A5,A6:=A6,A7:=none,A8:=none,A9:=none,c1:=c1,c2:=c2,c3:=c3,c4:=c4,c5:=c5,c6:=c6,c7:=0,c8:=0,c9:=0 } w8:=⟨nL,⟨_,hg⟩,fun _ _=>rfl,⟨hr.o.nm,hr.o.ent,hr.o.ext,hr.o.app,hr.o.len,n1,n2,n3,n4,n5,n6,⟨nZ,nZ⟩,⟨nZ,nZ⟩,⟨nZ,nZ⟩⟩,s1,s2,s3,s4,s5,s6,hx,hg,hz,z09.nil _ _ _ _ nZ,z09.nil _ _ _ _ nZ,z09.nil _ _ _ _ nZ,hzl,hb⟩
 obtain ⟨u0,hu0⟩:∃ u0:z2v,u0 = { r:={ v.r with flk:=[],grd:=[],gap:=[] },A1:=A1,A2:=A2,A3:=A3,A4:=A4,A5:=A5,A6:=A6,A7:=none,A8:=none,A9:=none,c1:=c1,c2:=c2,c3:=c3,c4:=c4,c5:=c5,c6:=c6,c7:=0,c8:=0,c9:=0 }:=⟨_,rfl⟩
 rw[←hu0] at hJ0;have hur:u0.r = { v.r with flk:=[],grd:=[],gap:=[] }:=by rw[hu0]
 rw[←hur] at HFK;have HP0:=hE (show FkP l.l u0.r st 0 u0.r from FkP.zero (by rw[hur]) (by rw[hur]) (by rw[hur]));have HJ0:=hE hJ0;have HS0:=hE s0;clear hJ0 hur hu0 hx hg hz hb hown hst hzl HZZ ho3 ho4 ho5 ho8 ho9 ho10 n0 n1 n2 n3 n4 n5 n6 s0 s1 s2 s3 s4 s5 s6 h1 h2 h3 h4 h5 h6;have hsl:st.length≤2000:=hstl;clear hstl;go_wp2_with fail
 go_loopw [46] (fun n wr=>∃ (k:Nat) (u:z2v),n=.int .i64 k∧k≤st.length∧FkJ l w8 w u wr∧FkP l.l u0.r st k u.r) (fun n _=>st.length - (intOf n).toNat)
 case atStart=>exact ⟨0,u0,rfl,nZ,HJ0.out,HP0.out⟩
 case round=>
  obtain ⟨k,u,rfl,hkl,hJ,hP⟩:=hrel;clear HJ0 HP0;have HJ:=hE hJ;have HP:=hE hP;clear hP;by_cases hlt:k < st.length;case pos=>
   have hki:(k:Int) < (st.length:Int):=by omega
   have hrd:=hJ.sep HS0.out;obtain ⟨b,off,hA0,lb,ho,-⟩:=hrd.elT hlt;subst hA0;have lb':b < wr.heap.size:=lb;obtain ⟨s,hs⟩:∃ s,st[k]=s:=⟨_,rfl⟩
   have lds:=y4l hrd (i:=k) hlt hs;have HSK:=hE (fun _:Unit=>(⟨hlt,hs⟩:∃ h:k < st.length,st[k]=s));obtain ⟨Wa,hWa⟩:∃ W,W=wr.alloc (.cells #[.int .i64 s.el,.int .i64 s.inn,.int .i64 s.out] 85):=⟨_,rfl⟩
   have hqa:Below wr.heap.size wr Wa:=by rw[hWa];exact bQ.alloc nL _
   have hba:Blk Wa wr.heap.size 85 #[.int .i64 s.el,.int .i64 s.inn,.int .i64 s.out]:=by rw[hWa];exact Blk.new _ _ _ _ rfl
   have hJa:=hJ.now hqa;have HQA:=hE hqa.size;clear hJ hs ho hrd lb hlt hqa;go_upto_region 11 with (fail)
   rw[←hWa];clear hWa lds;have HB:=hE (x04 l s Wa (E.now hJa.bel) (hl.now hJa.bel));unfold lvA at HB;have ld0:=z04 hJa.bl 6 rfl;have ld1:=z04 hba 3 rfl;have HJa:=hE hJa;clear hJa hba;go_wp2_with fail
   refine HB.out.mono ?_;rintro en w3 ⟨Ae,ce,rfl,hes,hq⟩;have hJ3:=HJa.out.now hq;obtain ⟨es,hese⟩:∃ es,y1x l.l s=es:=⟨_,rfl⟩
   rw[hese] at hes ⊢;have hap:ApE (.slice Ae es.length ce) u:=fun b' hb' he=>by
    obtain ⟨xs,h1,_⟩:=hes;have h2:=(World.ownsRow.lt h1 b' hb').1;have h3:=z6t HJ.out.o9 b' he;have h4:=HQA.out;omega
   have hel4:es.length≤4:=by rw[←hese];exact y6r _ _
   have hes:=hes.lower (show w8.heap.size≤Wa.heap.size from HJa.out.sz);have HST:=hE (aIq hJ3 (aIq hes hap));have HQ0:=hE (show FkQ l.l u.r es (4*k) 0 u.r from FkQ.zero HP.out.2);have HSE:=hE hese;have HKN:=hE hkl;clear hJ3 hes hap hese HB ld0 ld1 hq HJa HJ HQA hkl;go_wp2_with fail
   go_loopw [54] (fun n wr2=>∃ (j:Nat) (u2:z2v),n=.int .i64 j∧j≤es.length∧FkJ l w8 w u2 wr2∧FkQ l.l u.r es (4*k) j u2.r∧z09 y1z wr2 w8.heap.size 90 (.slice Ae es.length ce) es 0∧ApE (.slice Ae es.length ce) u2) (fun n _=>es.length - (intOf n).toNat)
   case atStart=>exact ⟨0,u,rfl,nZ,HST.out.1,HQ0.out,HST.out.2.1,HST.out.2.2⟩
   case round=>
    obtain ⟨j,u2,rfl,hjl,hJ,hQ,hes,hap⟩:=hrel;clear HST HQ0;have HQ:=hE hQ;clear hQ;by_cases hlj:j < es.length;case neg=>
     have hji:¬(j:Int) < (es.length:Int):=by omega
     obtain ⟨hlt,hsk⟩:=HSK.out ();have HX:=hE (show FkJ l w8 w u2 wr∧FkP l.l u0.r st (k+1) u2.r from ⟨hJ,FkQ.out hlt HP.out (by rw[hsk,HSE.out];exact HQ.out) (by rw[hsk,HSE.out];exact hlj) (by rw[hsk,HSE.out];exact hjl)⟩);have hk1:k+1≤st.length:=hlt;clear hsk hlt;clear hJ hes hap hlj hjl;go_wp2_with fail
     go_roundw
     case rel=>exact ⟨k+1,u2,by go_num,hk1,HX.out.1,HX.out.2⟩
     case measure=>simp[intOf];omega
    case pos=>
     have hji:(j:Int) < (es.length:Int):=by omega
     have hj1:j+1≤es.length:=hlj;have hrd:RdS y1z wr (Lt wr) Ae es:=hes.rdn.2.more fun b h=>h.2
     obtain ⟨b2,off2,hAe,lb2,he64,-⟩:=hrd.elD hlj;subst hAe;have lb2':b2 < wr.heap.size:=lb2;obtain ⟨e,hee⟩:∃ e,es[j]=e:=⟨_,rfl⟩
     rw[hee] at he64;have lde:=x7e hrd (i:=j) hlj hee;have HEJ:=hE (fun _:Unit=>(⟨hlj,hee⟩:∃ h:j < es.length,es[j]=e));obtain ⟨Wb,hWb⟩:∃ W,W=wr.alloc (.cells #[.int .i64 e.el,.int .i64 e.sd] 90):=⟨_,rfl⟩
     have hqb:Below wr.heap.size wr Wb:=by rw[hWb];exact bQ.alloc nL _
     have hbe:Blk Wb wr.heap.size 90 #[.int .i64 e.el,.int .i64 e.sd]:=by rw[hWb];exact Blk.new _ _ _ _ rfl
     have hJb:=hJ.now hqb;have hes:=hes.now hqb;clear hJ hee hrd lb2 hlj hqb hjl;go_upto_region 14 with (fail)
     rw[←hWb];clear hWb lde lb2';have HSR:=hE (x1p l u2 e Wb (E.now hJb.bel).toEnvR (hl.now hJb.bel) hJb.rv);unfold lvA at HSR;have ld0:=z04 hJb.bl 6 rfl;have ld1:=z04 hJb.bx 14 rfl;have ld2:=z1u hbe;have HJb:=hE hJb;have HES:=hE hes;have HBE:=hE hbe;clear hJb hes hbe;go_wp2_with fail
     refine HSR.out.mono ?_;rintro en w5 ⟨rfl,hq⟩;have hJ5:=HJb.out.now hq;have hes5:=HES.out.now hq;have hbe5:=HBE.out.now hq;clear HSR ld0 ld1 ld2 HJb HES HBE hq;obtain ⟨pr,hpr⟩:∃ pr,z3p l.l u2.r 4 e=pr:=⟨_,rfl⟩
     rw[hpr];have HLN:=hE HQ.out.2
     cases pr with
     | none=>
      have hsv:j9c none=.tuple #[.agg #[.int .i64 0,.int .i64 0],.int .i64 (-1),.bool false]:=rfl;rw[hsv];have HF1:=hE (x3k hpr);clear hsv hpr;obtain ⟨Wc,hWc⟩:∃ W,W=w5.alloc (.cells #[.int .i64 (0),.int .i64 (0)] 78):=⟨_,rfl⟩
      have hqc:Below w5.heap.size w5 Wc:=by rw[hWc];exact bQ.alloc nL _
      have hbt:Blk Wc w5.heap.size 78 #[.int .i64 (0),.int .i64 (0)]:=by rw[hWc];exact Blk.new _ _ _ _ rfl
      have hJ:=hJ5.now hqc;have hes:=hes5.now hqc;have hbe:=hbe5.now hqc;clear hJ5 hes5 hbe5 hqc;go_upto_region 15 with (fail)
      rw[←hWc];clear hWc;have f0:=hbe.lt;have ld2:=z1u hbe;have r13:=hJ.bx.cell 13;have rl:=hJ.bx.lt;simp only[gqA,gqZ,gqS] at r13;have h4:Below Wc.heap.size Wc (Wc.alloc (.cells #[.int .i64 e.el,.int .i64 e.sd] 90)):=bQ.alloc nL _;have hbz4:Blk (Wc.alloc (.cells #[.int .i64 e.el,.int .i64 e.sd] 90)) Wc.heap.size 90 #[.int .i64 e.el,.int .i64 e.sd]:=Blk.new _ _ _ _ rfl;have hJ4:=hJ.now h4;have hes4:=hes.now h4;have hown4:=hJ4.o9;have hln:u2.r.gap.length≤100000:=by have h:=HLN.out;have h2:=HKN.out;omega
      have HX4:=hE (aIq hJ4 hes4);have hws:=hJ4.sz;clear hJ hes hJ4 hes4;go_wp2_with (at_builtin;(refine z0m (c:=y1z) _ rfl _ _ 54 rfl w8.heap.size 90 iE _ 16 Tryz.underlying54 hiE hE0 hE1 hE2 rfl (by decide) _ u2.r.gap 0 rfl hown4 [.int .i64 e.el,.int .i64 e.sd] e ⟨rfl,he64⟩ (by intro u hu;simp at hu;rcases hu with rfl | rfl <;> rfl) ⟨Wc.heap.size,0,none⟩ 1 rfl (fun j u hj=>by rw[z0g];exact z0f hbz4 j u hj) hln (by omega) hws ?_);intro v' w7 hq7;obtain ⟨A7',c7',rfl⟩:=hq7.own.form;have hbx7:=hq7.frm.blk HX4.out.1.bx (by decide);have g13:=hbx7.cell 13;have gf:=hbx7.free;have gl:=hbx7.lt;clear hbx7;simp only[gqA,gqZ,gqS] at g13)
      go_roundw
      case rel=>
       have hJX:=HX4.out.1.k09 hq7.frm (hq7.own.low z9x);obtain ⟨hlj,hee⟩:=HEJ.out ();have hgl:(u2.r.gap++[e]).length=u2.r.gap.length+1:=by simp
       have hesX:=(HX4.out.2.apart hq7 (fun b hb he=>hap b hb he)).set (w.heap.size+1) 13 (.slice A7' (u2.r.gap++[e]).length c7') 56 _ (hq7.frm.blk HX4.out.1.bx (by decide)) (by decide) nZ;have hqs:=HQ.out.step (r':={ u2.r with gap:=u2.r.gap++[e] }) hlj (by rw[hee];exact HF1.out) (by dsimp only;simp only[qL,List.length_singleton];omega);have hapX:ApE (.slice (some ⟨b2,off2,none⟩) es.length ce) { u2 with r:={ u2.r with gap:=u2.r.gap++[e] },A9:=A7',c9:=c7' }:=fun b hb he=>by
        rcases hq7.blk b he with h | h
        ·exact hap b hb h
        ·have:=z6t HX4.out.2 b hb;omega
       rw[hgl] at hJX hesX;exact ⟨j+1,_,by go_num,hj1,hJX,hqs,hesX,hapX⟩
      case measure=>simp[intOf];omega
     | some sg=>
      obtain ⟨s1,g⟩:=sg;have hsv:j9c (some (s1,g))=.tuple #[.agg #[.int .i64 s1.el,.int .i64 s1.pos],.int .i64 g,.bool true]:=rfl;rw[hsv];obtain ⟨hs64,hg64⟩:=y9h hl 4 hpr;have HPR:=hE hpr;clear hsv hpr;obtain ⟨Wc,hWc⟩:∃ W,W=w5.alloc (.cells #[.int .i64 (s1.el),.int .i64 (s1.pos)] 78):=⟨_,rfl⟩
      have hqc:Below w5.heap.size w5 Wc:=by rw[hWc];exact bQ.alloc nL _
      have hbt:Blk Wc w5.heap.size 78 #[.int .i64 (s1.el),.int .i64 (s1.pos)]:=by rw[hWc];exact Blk.new _ _ _ _ rfl
      have hJ:=hJ5.now hqc;have hes:=hes5.now hqc;have hbe:=hbe5.now hqc;clear hJ5 hes5 hbe5 hqc;go_upto_region 15 with (fail)
      rw[←hWc];clear hWc;by_cases hg0:0≤g;case pos=>
       have t1:decide (0≤g)=true:=by simpa using hg0
       have HF1:=hE (x7k HPR.out hg0);clear hg0;have r12:=hJ.bx.cell 12;have rl:=hJ.bx.lt;simp only[gqA,gqZ,gqS] at r12;have h4:Below Wc.heap.size Wc (Wc.alloc (.cells #[.int .i64 g] 3)):=bQ.alloc nL _;have hbz4:Blk (Wc.alloc (.cells #[.int .i64 g] 3)) Wc.heap.size 3 #[.int .i64 g]:=Blk.new _ _ _ _ rfl;have hJ4:=hJ.now h4;have hes4:=hes.now h4;have hown4:=hJ4.o8;have hln:u2.r.grd.length≤100000:=by have h:=HLN.out;have h2:=HKN.out;omega
       have HX4:=hE (aIq hJ4 hes4);have hws:=hJ4.sz;clear hJ hes hJ4 hes4 hbe hbt;go_wp2_with (at_builtin;(refine z0m (c:=cI) _ rfl _ _ 31 rfl w8.heap.size 3 iI _ 8 Tryz.underlying31 hiI hI0 hI1 hI2 rfl (by decide) _ u2.r.grd 0 rfl hown4 [.int .i64 g] g ⟨rfl,hg64⟩ (by simp[Value.oneCell']) ⟨Wc.heap.size,0,none⟩ 1 rfl (fun j u hj=>by rw[z0g];exact z0f hbz4 j u hj) hln (by omega) hws ?_);intro v' w7 hq7;obtain ⟨A7',c7',rfl⟩:=hq7.own.form;have hbx7:=hq7.frm.blk HX4.out.1.bx (by decide);have g12:=hbx7.cell 12;have gf:=hbx7.free;have gl:=hbx7.lt;clear hbx7;simp only[gqA,gqZ,gqS] at g12)
       go_roundw
       case rel=>
        have hJX:=HX4.out.1.j9r hq7.frm (hq7.own.low z9y);obtain ⟨hlj,hee⟩:=HEJ.out ();have hgl:(u2.r.grd++[g]).length=u2.r.grd.length+1:=by simp
        have hesX:=(HX4.out.2.frm hq7.frm (by decide) nZ).set (w.heap.size+1) 12 (.slice A7' (u2.r.grd++[g]).length c7') 56 _ (hq7.frm.blk HX4.out.1.bx (by decide)) (by decide) nZ;have hqs:=HQ.out.step (r':={ u2.r with grd:=u2.r.grd++[g] }) hlj (by rw[hee];exact HF1.out) (by dsimp only;simp only[qL,List.length_singleton];omega);rw[hgl] at hJX hesX;exact ⟨j+1,_,by go_num,hj1,hJX,hqs,hesX,hap⟩
       case measure=>simp[intOf];omega
      case neg=>
       have t1:decide (0≤g)=false:=by simpa using hg0
       have ld3:=z1u hbt;have heq:∀ W,(Op.equalIn 10000 78 (.agg #[.int .i64 s1.el,.int .i64 s1.pos]) (.agg #[.int .i64 0,.int .i64 0])).run Tryz.prog W=.ok (decide (s1=zG)) W:=fun W=>y55 W 9998 s1 zG
       have tl:=hbt.lt;by_cases hsz:s1=zG;case pos=>
        have HF1:=hE (j1k HPR.out hg0 hsz);have hd:decide (s1=zG)=true:=by simpa using hsz
        rw[hd] at heq;have HX4:=hE (aIq hJ hes);clear hg0 hsz hd hJ hes hbe hbt HPR;go_wp2_with fail
        go_roundw
        case rel=>
         obtain ⟨hlj,hee⟩:=HEJ.out ();have hqs:=HQ.out.step (r':=u2.r) hlj (by rw[hee];exact HF1.out) (by omega);exact ⟨j+1,u2,by go_num,hj1,HX4.out.1,hqs,HX4.out.2,hap⟩
        case measure=>simp[intOf];omega
       case neg=>
        have HF1:=hE (x7j HPR.out hg0 hsz);have hd:decide (s1=zG)=false:=by simpa using hsz
        rw[hd] at heq;have r11:=hJ.bx.cell 11;have rl:=hJ.bx.lt;simp only[gqA,gqZ,gqS] at r11;have h4:Below Wc.heap.size Wc (Wc.alloc (.cells #[.int .i64 s1.el,.int .i64 s1.pos] 78)):=bQ.alloc nL _;have hbz4:Blk (Wc.alloc (.cells #[.int .i64 s1.el,.int .i64 s1.pos] 78)) Wc.heap.size 78 #[.int .i64 s1.el,.int .i64 s1.pos]:=Blk.new _ _ _ _ rfl;have hJ4:=hJ.now h4;have hes4:=hes.now h4;have hown4:=hJ4.o7;have hln:u2.r.flk.length≤100000:=by have h:=HLN.out;have h2:=HKN.out;omega
        have HX4:=hE (aIq hJ4 hes4);have hws:=hJ4.sz;clear hg0 hsz hd hJ hes hJ4 hes4 hbe hbt HPR;go_wp2_with (at_builtin;(refine z0m (c:=z2x) _ rfl _ _ 53 rfl w8.heap.size 78 iG _ 16 Tryz.underlying53 hiG hG0 hG1 hG2 rfl (by decide) _ u2.r.flk 0 rfl hown4 [.int .i64 s1.el,.int .i64 s1.pos] s1 ⟨rfl,hs64⟩ (by intro u hu;simp at hu;rcases hu with rfl | rfl <;> rfl) ⟨Wc.heap.size,0,none⟩ 1 rfl (fun j u hj=>by rw[z0g];exact z0f hbz4 j u hj) hln (by omega) hws ?_);intro v' w7 hq7;obtain ⟨A7',c7',rfl⟩:=hq7.own.form;have hbx7:=hq7.frm.blk HX4.out.1.bx (by decide);have g11:=hbx7.cell 11;have gf:=hbx7.free;have gl:=hbx7.lt;clear hbx7;simp only[gqA,gqZ,gqS] at g11)
        go_roundw
        case rel=>
         have hJX:=HX4.out.1.j9q hq7.frm (hq7.own.low z9z);obtain ⟨hlj,hee⟩:=HEJ.out ();have hgl:(u2.r.flk++[s1]).length=u2.r.flk.length+1:=by simp
         have hesX:=(HX4.out.2.frm hq7.frm (by decide) nZ).set (w.heap.size+1) 11 (.slice A7' (u2.r.flk++[s1]).length c7') 56 _ (hq7.frm.blk HX4.out.1.bx (by decide)) (by decide) nZ;have hqs:=HQ.out.step (r':={ u2.r with flk:=u2.r.flk++[s1] }) hlj (by rw[hee];exact HF1.out) (by dsimp only;simp only[qL,List.length_singleton];omega);rw[hgl] at hJX hesX;exact ⟨j+1,_,by go_num,hj1,hJX,hqs,hesX,hap⟩
        case measure=>simp[intOf];omega
  case neg=>
   have hki:¬(k:Int) < (st.length:Int):=by omega
   have HUR:=hE (HP.out.out hlt);have hln:u.r.flk.length≤90000∧u.r.grd.length≤90000:=by have:=HP.out.2;omega
   clear HP hlt hkl HJ;have HSO:=hE (y0w 40 (enters_of Tryz.func40 (by kernel_rfl) rfl) x75 u.r.flk u.A7 u.c7 w8.heap.size wr hJ.o7 (by omega));have r11:=hJ.bx.cell 11;have rl:=hJ.bx.lt;simp only[gqA,gqZ,gqS] at r11;have HJ:=hE hJ;clear hJ;go_wp2_with fail
   refine HSO.out.mono ?_;rintro en w5 ⟨rfl,ho5,hf5⟩;clear HSO r11 rl;have hbx5:=hf5.blk HJ.out.bx (by decide);have hpl:(z4l ltG u.r.flk).length=u.r.flk.length:=z9p;have HCO:=hE (z8q (z4l ltG u.r.flk) u.A7 u.c7 w8.heap.size w5 (by rw[hpl];exact ho5) (by omega));rw[hpl] at HCO;have r11:=hbx5.cell 11;have rl:=hbx5.lt;simp only[gqA,gqZ,gqS] at r11;have HF5:=hE hf5;clear hbx5 hf5 ho5 hpl;go_wp2_with fail
   refine HCO.out.mono ?_;rintro en w6 ⟨rfl,ho6,hf6⟩;clear HCO r11 rl;have hf56:=HF5.out.trans hf6;have hbx6:=hf56.blk HJ.out.bx (by decide);have hJ6:=HJ.out.j9q hf56 ho6;have r11:=hbx6.cell 11;have rf:=hbx6.free;have rl:=hbx6.lt;simp only[gqA,gqZ,gqS] at r11;obtain ⟨X6,hX6⟩:∃ W,W=w6.setCell ⟨w.heap.size+1,11,none⟩ (.slice u.A7 (z0v (z4l ltG u.r.flk)).length u.c7):=⟨_,rfl⟩
   rw[←hX6] at hJ6;have HJ6:=hE hJ6;clear hJ6 hbx6 hf56 ho6 hf6 HF5 HJ;go_upto_region 25 with (fail)
   rw[←hX6];clear hX6 r11 rf rl;have r12:=HJ6.out.bx.cell 12;have rl:=HJ6.out.bx.lt;simp only[gqA,gqZ,gqS] at r12;have HSO:=hE (y6b u.r.grd u.A8 u.c8 w8.heap.size X6 HJ6.out.o8 (by omega));go_wp2_with fail
   refine HSO.out.mono ?_;rintro en w9 ⟨rfl,ho9,hf9⟩;clear HSO r12 rl;have hbx9:=hf9.blk HJ6.out.bx (by decide);have hpl:(z4l ltI u.r.grd).length=u.r.grd.length:=(z1k u.r.grd).length_eq;have HCO:=hE (z8r (z4l ltI u.r.grd) u.A8 u.c8 w8.heap.size w9 (by rw[hpl];exact ho9) (by omega));rw[hpl] at HCO;have r12:=hbx9.cell 12;have rl:=hbx9.lt;simp only[gqA,gqZ,gqS] at r12;have HF9:=hE hf9;clear hbx9 hf9 ho9 hpl;go_wp2_with fail
   refine HCO.out.mono ?_;rintro en w10 ⟨rfl,ho10,hf10⟩;clear HCO r12 rl;have hf910:=HF9.out.trans hf10;have hbx10:=hf910.blk HJ6.out.bx (by decide);have hJ10:=HJ6.out.j9r hf910 ho10;have r12:=hbx10.cell 12;have rf:=hbx10.free;have rl:=hbx10.lt;simp only[gqA,gqZ,gqS] at r12;obtain ⟨X10,hX10⟩:∃ W,W=w10.setCell ⟨w.heap.size+1,12,none⟩ (.slice u.A8 (z0v (z4l ltI u.r.grd)).length u.c8):=⟨_,rfl⟩
   rw[←hX10] at hJ10;have HJ10:=hE hJ10;clear hJ10 hbx10 hf910 ho10 hf10 HF9 HJ6;go_upto_region 27 with (fail)
   rw[←hX10];clear hX10 r12 rf rl;obtain ⟨u3,hu3⟩:∃ u3:z2v,u3 = { u with r:={ u.r with flk:=z0v (z4l ltG u.r.flk),grd:=z0v (z4l ltI u.r.grd) },A7:=u.A7,c7:=u.c7,A8:=u.A8,c8:=u.c8 }:=⟨_,rfl⟩
   have hJ3:FkJ l w8 w u3 X10:=by rw[hu3];exact HJ10.out
   have HU3:=hE (show u3.r=z8z l.l v.r by rw[HFK.out,←HUR.out,hu3]);have ld1:=z04 hJ3.bx 14 rfl;obtain ⟨hp,hfr⟩:=z0q (z0e u3) hJ3.bz;have hbX:Below w.heap.size w (X10.setRow (w.heap.size+1+1) (z0e u3)):=hfr.keeps (show w.heap.size≤w.heap.size+1+1 by omega) hJ3.bel.size hJ3.bel;have hrv:RvR (X10.setRow (w.heap.size+1+1) (z0e u3)) (x02 w.heap.size (X10.setRow (w.heap.size+1+1) (z0e u3))) u3:=
    have hk:∀ b,Sep X10 56 X10.heap.size b→(X10.setRow (w.heap.size+1+1) (z0e u3)).heap[b]? = X10.heap[b]?:=fun b hb=>setRow_other _ _ _ _ (fun he=>hb.2 _ (0,0) (he▸hJ3.bz))
    (hJ3.rvR.keep fun p hp=>z0k (hk _ hp.2)).more fun b hb=>⟨hb.1,nT hb.2.1 (by simp),fun cs fr he=>hb.2.2 cs fr (by rw[←hk b hb.2];exact he)⟩
   have HZ:=hE hJ3.bz;have HRR:=hE (aIq hrv hbX);obtain ⟨WX,hWX⟩:∃ W,W=X10.setRow (w.heap.size+1+1) (z0e u3):=⟨_,rfl⟩
   rw[←hWX] at HRR hp;have HPP:=hE hp;have HWX:=hE hWX;clear hp hfr hbX hrv hWX hJ3 hu3 HJ10 HUR HFK;rename_i Q' K hK;have HK:=hE hK;clear hK;go_wp2_with ((refine wpList_store_row rfl _ _ _ rfl (w.heap.size+1+1) (z0e u3) rfl rfl 56 #[.string (ByteArray.mk #[]),.int .i64 0,.int .i64 0,.slice none 0 0,.slice none 0 0,.slice none 0 0,.int .i64 0,.int .i64 0,.slice none 0 0,.slice none 0 0,.slice none 0 0,.slice none 0 0,.slice none 0 0,.slice none 0 0] HZ.out (by kernel_rfl) rfl (by simp[Value.oneCell']) ?_))
   rw[←HWX.out];clear ld1;refine HK.out _ _ ?_;have ldp:=z04 HPP.out 14 rfl;have pl:=HPP.out.lt;refine wp_ret ?_;refine bodyPost_ret (v:=.agg (z0e u3)) (by simp[results,Tryz.results15,go_sem,ldp,pl]) rfl ?_;exact ⟨u3,rfl,HU3.out,HRR.out.1,HRR.out.2⟩
end Go.Proofs.YtpenlfedkacglaaGreatDoor
namespace Go.Proofs.YtpenlfedkacglaaGreatDoor
open Go.RowKit
attribute [-go_sem] loadCellsFrom
theorem z6j {w:World} {S:Nat→Prop} {A:Option Addr} {l:List Rou} (h:RdS cR w S A l) {i:Nat} (hi:i < l.length):∃ b off v,A=some ⟨b,off,none⟩∧S b∧v.r=l[i]∧RvR w S v∧Sem.run Tryz.prog (loadCellsFrom ⟨b,off+i*14,none⟩ 0 14 #[]) w=.ok (z0e v) w:=by
 obtain ⟨b,off,v,h1,h2,h3,h4,q0,q1,q2,q3,q4,q5,q6,q7,q8,q9,q10,q11,q12,q13⟩:=h.elR hi
 exact ⟨b,off,v,h1,h2,h3,h4,z2e (b:=b) (o:=off+i*14) (n:=14) (ys:=[.string (bs v.r.name),.int .i64 v.r.ent,.int .i64 v.r.ext,.slice v.A1 v.r.path.length v.c1,.slice v.A2 v.r.pts.length v.c2,.slice v.A3 v.r.secs.length v.c3,.int .i64 v.r.app,.int .i64 v.r.len,.slice v.A4 v.r.over.length v.c4,.slice v.A5 v.r.opts.length v.c5,.slice v.A6 v.r.osecs.length v.c6,.slice v.A7 v.r.flk.length v.c7,.slice v.A8 v.r.grd.length v.c8,.slice v.A9 v.r.gap.length v.c9]) rfl fun j u hj=>match j,hj with
  | 0,hj=>(sJ hj)▸q0
  | 1,hj=>(sJ hj)▸q1
  | 2,hj=>(sJ hj)▸q2
  | 3,hj=>(sJ hj)▸q3
  | 4,hj=>(sJ hj)▸q4
  | 5,hj=>(sJ hj)▸q5
  | 6,hj=>(sJ hj)▸q6
  | 7,hj=>(sJ hj)▸q7
  | 8,hj=>(sJ hj)▸q8
  | 9,hj=>(sJ hj)▸q9
  | 10,hj=>(sJ hj)▸q10
  | 11,hj=>(sJ hj)▸q11
  | 12,hj=>(sJ hj)▸q12
  | 13,hj=>(sJ hj)▸q13⟩
theorem y0s (l:Lay) (p:List Stp):(z1a l p).length≤p.length:=by
 unfold z1a;exact nR (z4t _) (by rw[(z1k _).length_eq];exact List.length_filterMap_le _ _)
theorem y0r (l:Lay):∀ (p:List Stp) (acc:List Int),(z7b l acc p).length≤acc.length+p.length
 | [],acc=>by simp[z7b]
 | s::r,acc=>by
  unfold z7b;split
  ·have:=y0r l r (acc++[z0d l s.el]);rw[qL,List.length_singleton] at this;rw[lCn];omega
  ·have:=y0r l r acc;rw[lCn];omega
theorem y0p (l:Lay) (p:List Stp):(z0y l p).length≤p.length:=by have:=y0r l p [];simpa [z0y] using this
theorem x6f {l:Lay} (hk:z9a l) {r:Rou} (h:r∈y1g l):∃ (i:Nat) (p:List Stp) (nm:List UInt8),i < l.sgs.length∧p.length≤12∧r = { z2c l (i:Int) p with name:=nm }:=by
 unfold y1g at h;obtain ⟨i,hi,h⟩:=List.mem_flatMap.1 h;have hi:=List.mem_range.1 hi;unfold z4h at h
 cases hj:z03 l.jts (y4i l (i:Int)) with
 | none=>rw[hj] at h;cases h
 | some e=>
  rw[hj] at h;obtain ⟨r0,h0,nm,rfl⟩:=y5q (l:=l) _ _ _ h;obtain ⟨p,hp,rfl⟩:=List.mem_map.1 h0;have:=y07 hk 12 [] e (y1v.nil _) rfl (hk.jn _ _ hj) p hp;exact ⟨i,p,nm,hi,this.2.2,rfl⟩
structure ShR (l:Lay) (r:Rou):Prop where
 ext:r.ext < (l.sgs.length:Int)
 s:j4m r
 n1:r.path.length≤12
 n2:r.pts.length≤12
 n3:r.secs.length≤12
 n8:r.grd.length≤30000
 n9:r.gap.length≤30000
theorem j03 {l:Lay} (hk:z9a l) {r:Rou} (h:r∈y1g l):ShR l r:=by
 obtain ⟨i,p,nm,hi,hp,rfl⟩:=x6f hk h;have h1:=y0s l p;have h2:=y0p l p;have h3:=y0v l (z3h p);exact ⟨h3.2,⟨(by show p.length≤30000;omega),(by show (z1a l p).length≤30000;omega),(by show (z0y l p).length≤30000;omega),nZ,nZ,nZ,nZ⟩,hp,(by show (z1a l p).length≤12;omega),(by show (z0y l p).length≤12;omega),nZ,nZ⟩
def z3j (l:Lay) (rs:List Rou) (k:Nat):List Rou:=(rs.take k).map fun r=>z8z l (z1z l r)
theorem x1n {l:Lay} {rs:List Rou} {k:Nat} (h:k < rs.length):z3j l rs (k+1)=z3j l rs k++[z8z l (z1z l rs[k])]:=by
 unfold z3j;rw[tqS h,List.map_append];rfl
theorem z7s {l:Lay} {rs:List Rou} {k:Nat} (h:k≤rs.length):(z3j l rs k).length=k:=by unfold z3j;rw[List.length_map,lTk];omega
def z9b (g:Nat) (w:World):Nat→Prop:=fun b=>g < b∧Sep w 56 w.heap.size b
def y6p (g:Nat) (w:World) (x:Value) (l:List Rou):Prop:=z2l cR w g (z9b g w) 56 x l
theorem z9b.lt {g:Nat} {w:World} {b:Nat} (h:z9b g w b):b < w.heap.size:=h.2.1
theorem z9b.frm {g base:Nat} {w w':World} (hf:Frm base 56 w w') {b:Nat} (h:z9b g w b):w'.heap[b]? = w.heap[b]?:=by
 have hlt:=h.lt;have ho:w.heap[b]? = some w.heap[b]:=agE hlt;rw[hf.obj b _ ho fun cs fr hx=>h.2.2 cs fr (by rw[ho,hx]),ho]
theorem z9b.same {g:Nat} {w w':World} {b:Nat} (h:z9b g w b) (hs:w'.heap[b]? = w.heap[b]?) (hz:w.heap.size≤w'.heap.size):z9b g w' b:=⟨h.1,nT h.2.1 hz,fun cs fr he=>h.2.2 cs fr (by rw[←hs];exact he)⟩
theorem y6p.now {g:Nat} {w w':World} {x:Value} {l:List Rou} (h:y6p g w x l) (hb:Below w.heap.size w w'):y6p g w' x l:=
 (z2l.now h (fun b hq=>hq.lt) hb).more fun b hq=>hq.same (hb.block b hq.lt) hb.size
theorem y6p.set {g j:Nat} {w:World} {x u:Value} {l:List Rou} {T:TypeId} {cs:Array Value} (h:y6p g w x l) (hg:Blk w g T cs) (hT:56≠T):y6p g (w.setCell ⟨g,j,none⟩ u) x l:=
 have hk:∀ b,z9b g w b→(w.setCell ⟨g,j,none⟩ u).heap[b]? = w.heap[b]?:=fun b hq=>Below.heap_setCell _ _ _ b (show b≠g by have:=hq.1;omega)
 (z2l.same h (fun b hb=>Below.heap_setCell _ _ _ b (z2l.ne h hg hT b hb)) hk (by simp)).more fun b hq=>hq.same (hk b hq) (by simp)
theorem y6p.apart {g:Nat} {w:World} {x:Value} {l:List Rou} (h:y6p g w x l):∀ b,z9b g w b→b < w.heap.size∧x.ownBlock≠some b:=fun b hq=>⟨hq.lt,fun he=>by
 obtain ⟨cs,ho⟩:=z2l.obj h b he;exact hq.2.2 cs (0,0) ho⟩
structure BdJ (v:LV) (w w3:World) (rs:List Rou) (k:Nat) (x:Value) (wr:World):Prop where
 bl:Blk wr w.heap.size 28 (z1c v)
 bz:Blk wr (w.heap.size+1) 33 #[.slice none 0 0,.slice none 0 0,.slice none 0 0,.int .i64 0,.int .i64 0]
 bt:Blk wr w3.heap.size 33 #[x,.slice none 0 0,.slice none 0 0,.int .i64 (v.l.secs.length:Int),.int .i64 (v.l.sgs.length:Int)]
 own:y6p w3.heap.size wr x (z3j v.l rs k)
 b3:Below w3.heap.size w3 wr
 bel:Below w.heap.size w wr
 lt:w.heap.size+1 < w3.heap.size
 gl:w3.heap.size < wr.heap.size
theorem BdJ.now {v:LV} {w w3 wr w':World} {rs:List Rou} {k:Nat} {x:Value} (h:BdJ v w w3 rs k x wr) (hb:Below wr.heap.size wr w'):BdJ v w w3 rs k x w':=
 ⟨h.bl.now hb,h.bz.now hb,h.bt.now hb,h.own.now hb,z00 h.b3 h.b3.size hb,z00 h.bel h.bel.size hb,h.lt,nT h.gl hb.size⟩
theorem BdJ.put {v:LV} {w w3 wr w':World} {rs:List Rou} {k:Nat} {x x':Value} (h:BdJ v w w3 rs k x wr) (hk:k < rs.length) {r:Rou} (hr:r=z8z v.l (z1z v.l rs[k])) (hl:z2l cR w' w3.heap.size (z9b w3.heap.size wr) 56 x' (z3j v.l rs k++[r])) (hf:Frm w3.heap.size 56 wr w'):BdJ v w w3 rs (k+1) x' (w'.setCell ⟨w3.heap.size,0,none⟩ x'):=by
 have hbt:=hf.blk h.bt (by decide);have hlt:=h.lt;subst hr;have hl2:y6p w3.heap.size w' x' (z3j v.l rs (k+1)):=by
  rw[x1n hk];exact z2l.more hl fun b hq=>hq.same (hq.frm hf) hf.size
 exact ⟨(hf.blk h.bl (by decide)).far (show w.heap.size≠w3.heap.size by omega) _,(hf.blk h.bz (by decide)).far (show w.heap.size+1≠w3.heap.size by omega) _,hbt.set 0 _,hl2.set hbt (by decide),(hf.keeps nL h.b3.size h.b3).setCell (p:=⟨w3.heap.size,0,none⟩) nL _,(hf.keeps (by omega) h.bel.size h.bel).setCell (p:=⟨w3.heap.size,0,none⟩) (show w.heap.size≤w3.heap.size by omega) _,hlt,by simp;exact nT h.gl hf.size⟩
structure BdK (v:LV) (w w3 W8:World) (ps:List Int) (k k2:Nat) (x y z:Value) (wr:World):Prop where
 bt:Blk wr w3.heap.size 33 #[x,y,z,.int .i64 (v.l.secs.length:Int),.int .i64 (v.l.sgs.length:Int)]
 o1:z09 cI wr W8.heap.size 3 y (ps.take k) 0
 o2:z09 cI wr W8.heap.size 3 z ((ps.take k2).map (z0d v.l)) 0
 ap:∀ b,y.ownBlock=some b→z.ownBlock≠some b
 k8:∀ b,b < W8.heap.size→b≠w3.heap.size→wr.heap[b]? = W8.heap[b]?
 sz:W8.heap.size≤wr.heap.size
 bel:Below w.heap.size w wr
 lt:w.heap.size+1 < w3.heap.size
 g8:w3.heap.size < W8.heap.size
section
variable {v:LV} {w w3 W8 wr w':World} {ps:List Int} {k k2:Nat} {x y z y' z':Value}
theorem BdK.now (h:BdK v w w3 W8 ps k k2 x y z wr) (hb:Below wr.heap.size wr w'):BdK v w w3 W8 ps k k2 x y z w':=
 ⟨h.bt.now hb,h.o1.now hb,h.o2.now hb,h.ap,fun b h1 h2=>(hb.block b (nT h1 h.sz)).trans (h.k8 b h1 h2),nR h.sz hb.size,z00 h.bel h.bel.size hb,h.lt,h.g8⟩
theorem BdK.blk (h:BdK v w w3 W8 ps k k2 x y z wr) {g:Nat} {T:TypeId} {cs:Array Value} (hg:Blk W8 g T cs) (hne:g≠w3.heap.size):Blk wr g T cs:=(h.k8 g (z0j hg) hne).trans hg
theorem BdK.rts (h:BdK v w w3 W8 ps k k2 x y z wr) {l:List Rou} (hr:y6p w3.heap.size W8 x l) (hx:∀ b,x.ownBlock=some b→b≠w3.heap.size):z2l cR wr w3.heap.size (z9b w3.heap.size W8) 56 x l:=
 z2l.same hr (fun b hb=>h.k8 b (z2l.lt hr b hb).2 (hx b hb)) (fun b hb=>h.k8 b hb.lt (by have:=hb.1;omega)) h.sz
theorem BdK.j8w (h:BdK v w w3 W8 ps k k2 x y z wr) {e:Int} (he:ps.take (k+1)=ps.take k++[e]) (hq:x2b cI wr w' W8.heap.size 3 y y' (ps.take k++[e])):BdK v w w3 W8 ps (k+1) k2 x y' z (w'.setCell ⟨w3.heap.size,1,none⟩ y'):=by
 have hbt:=hq.frm.blk h.bt (by decide);have hlt:=h.lt;have hg8:=h.g8;exact ⟨hbt.set 1 _,by rw[he];exact (hq.own.low z9y).set w3.heap.size 1 _ 33 _ hbt (by decide) nZ,(h.o2.apart hq fun b hb he=>h.ap b he hb).set w3.heap.size 1 _ 33 _ hbt (by decide) nZ,fun b hb he=>by
  rcases hq.blk b hb with h1 | h1
  ·exact h.ap b h1 he
  ·have:=z6t h.o2 b he;omega,fun b h1 h2=>(Below.heap_setCell _ _ _ b (show b≠w3.heap.size from h2)).trans ((hq.frm.low b h1 (nT h1 h.sz)).trans (h.k8 b h1 h2)),by simp;exact nR h.sz hq.frm.size,(hq.frm.keeps (by omega) h.bel.size h.bel).setCell (p:=⟨w3.heap.size,1,none⟩) (show w.heap.size≤w3.heap.size by omega) _,hlt,hg8⟩
theorem BdK.j8x (h:BdK v w w3 W8 ps k k2 x y z wr) {e:Int} (he:(ps.take (k2+1)).map (z0d v.l)=(ps.take k2).map (z0d v.l)++[e]) (hq:x2b cI wr w' W8.heap.size 3 z z' ((ps.take k2).map (z0d v.l)++[e])):BdK v w w3 W8 ps k (k2+1) x y z' (w'.setCell ⟨w3.heap.size,2,none⟩ z'):=by
 have hbt:=hq.frm.blk h.bt (by decide);have hlt:=h.lt;have hg8:=h.g8;exact ⟨hbt.set 2 _,(h.o1.apart hq fun b hb=>h.ap b hb).set w3.heap.size 2 _ 33 _ hbt (by decide) nZ,by rw[he];exact (hq.own.low z9y).set w3.heap.size 2 _ 33 _ hbt (by decide) nZ,fun b hb he=>by
  rcases hq.blk b he with h1 | h1
  ·exact h.ap b hb h1
  ·have:=z6t h.o1 b hb;omega,fun b h1 h2=>(Below.heap_setCell _ _ _ b (show b≠w3.heap.size from h2)).trans ((hq.frm.low b h1 (nT h1 h.sz)).trans (h.k8 b h1 h2)),by simp;exact nR h.sz hq.frm.size,(hq.frm.keeps (by omega) h.bel.size h.bel).setCell (p:=⟨w3.heap.size,2,none⟩) (show w.heap.size≤w3.heap.size by omega) _,hlt,hg8⟩
end
end Go.Proofs.YtpenlfedkacglaaGreatDoor
namespace Go.Proofs.YtpenlfedkacglaaGreatDoor
open Go.RowKit
attribute [local go_sem] z05 z07 z01 z02
attribute [-go_sem] run_equalIn_agg
theorem k0b (x:Value) (n:Nat):(List.replicate n [x,x,x]).flatten=List.replicate (n*3) x:=by
 induction n with
 | zero=>rfl
 | succ n ih=>rw[List.replicate_succ,List.flatten_cons,ih,show (n+1)*3=n*3+1+1+1 by omega,List.replicate_succ,List.replicate_succ,List.replicate_succ];rfl
theorem x1b (x:Value) (n:Nat):madeCells #[x,x,x] n=(List.replicate n x).toArray:=by
 unfold madeCells;apply Array.toList_inj.1;apply List.ext_getElem?;intro i;by_cases hi:i < n
 ·have:i % 3 < 3:=Nat.mod_lt _ (by omega);have h3:[x,x,x][i % 3]?.getD default=x:=by
   rcases (show i % 3=0∨i % 3=1∨i % 3=2 by omega) with h | h | h <;> rw[h] <;> rfl
  simp[hi,h3]
 ·simp[hi]
theorem y5d:z0p 0:=by constructor <;> simp
theorem j1r:z0p 1:=by constructor <;> simp
theorem k08 (N:Nat) (hN:N≤1000000) (W:World):(Instr.makeSlice 39 (.int .i64 (N:Int)) (.int .i64 (N:Int))).run Tryz.prog W=.ok (.slice (some ⟨W.heap.size,0,none⟩) N N) (W.alloc (.cells (List.replicate (N*3) (Value.int .i64 0)).toArray 58)):=by
 obtain ⟨i0,hi,hz0,hz1,hz2⟩:=info_parts y4g;have h:=run_make (P:=Tryz.prog) W 39 58 i0 (.agg #[.int .i64 0,.int .i64 0,.int .i64 0]) Tryz.underlying39 hi hz0 .i64 .i64 (N:Int) (N:Int) (by omega) (by omega) (by rw[hz2];omega) (by omega);rw[hz1,show ((N:Int)).toNat=N by omega,show (Value.agg #[Value.int .i64 0,Value.int .i64 0,Value.int .i64 0]).cells=#[Value.int .i64 0,Value.int .i64 0,Value.int .i64 0] from rfl,x1b] at h;exact h
theorem y6e (v:z1w) (w:World) (hr:TvR w v) (hS:y4q v.t) (hck:z4y v.t=0):Calls Tryz.prog 8 #[.agg (z0t v)] w fun e w'=>∃ u:z1r,e=.returned (.agg (z1v u))∧u.i=x26 v.t∧ItO w' w.heap.size u∧Below w.heap.size w w':=by
 obtain ⟨i0,hi,hz0,hz1,hz2⟩:=info_parts z3f;have hnr:=(z8l hck).nr;have hnp:=(z8l hck).np;obtain ⟨W2,hW2⟩:∃ W,W=(w.alloc (.cells (z0t v) 33)).alloc (.cells #[.slice none 0 0,.slice none 0 0] 41):=⟨_,rfl⟩
 have hb2:Below w.heap.size w W2:=by rw[hW2];exact (bQ.alloc nL _).alloc (by simp) _
 have hx0:Blk W2 w.heap.size 33 (z0t v):=by rw[hW2];exact (Blk.new _ _ _ _ rfl).alloc _
 have hz:Blk W2 (w.heap.size+1) 41 #[.slice none 0 0,.slice none 0 0]:=by rw[hW2];exact Blk.new _ _ _ _ (by simp)
 have HCK:=hE (z8m v W2 (hr.now hb2) hS);rw[hck] at HCK;unfold tvA at HCK;have HST:Hid (x26 v.t=⟨v.t.rts.map fun _=>zS,v.t.pts.map fun _=>1⟩):=hE (by unfold x26;rw[if_pos hck]);clear hS hck;go_enter Tryz.func8,Tryz.ntmps8
 go_wp2_with fail;rw[←hW2];clear hW2;refine HCK.out.mono ?_;rintro e w3 ⟨rfl,hq3⟩;have hb3:=z00 hb2 hb2.size hq3;have hx3:=hx0.now hq3;have hz3:=hz.now hq3;have x0:=hx3.cell 0;have x1:=hx3.cell 1;have lx:=hx3.lt;have mk:=k08 v.t.rts.length (by omega) w3;simp only[gqA,gqZ,gqS] at x0 x1;clear HCK hq3 hb2 hx0 hz;obtain ⟨n,hn⟩:∃ n,v.t.rts.length=n:=⟨_,rfl⟩
 have HN:=hE hn;obtain ⟨W4,hW4⟩:∃ W,W=(w3.alloc (.cells (Array.replicate (v.t.rts.length*3) (Value.int .i64 0)) 58)).alloc (.cells #[.slice (some ⟨w3.heap.size,0,none⟩) v.t.rts.length v.t.rts.length,.slice none 0 0] 41):=⟨_,rfl⟩
 have hal1:Below w3.heap.size w3 (w3.alloc (.cells (List.replicate (v.t.rts.length*3) (Value.int .i64 0)).toArray 58)):=bQ.alloc nL _;have hW4':W4=(w3.alloc (.cells (List.replicate (v.t.rts.length*3) (Value.int .i64 0)).toArray 58)).alloc (.cells #[.slice (some ⟨w3.heap.size,0,none⟩) v.t.rts.length v.t.rts.length,.slice none 0 0] 41):=by rw[hW4,List.toArray_replicate]
 have hbe4:Below w3.heap.size w3 W4:=by rw[hW4'];exact hal1.alloc hal1.size _
 have hg:Blk W4 (w3.heap.size+1) 41 #[.slice (some ⟨w3.heap.size,0,none⟩) v.t.rts.length v.t.rts.length,.slice none 0 0]:=by rw[hW4'];exact Blk.new _ _ _ _ (by simp)
 have ho4:z09 cRS W4 w3.heap.size 58 (.slice (some ⟨w3.heap.size,0,none⟩) v.t.rts.length v.t.rts.length) (List.replicate v.t.rts.length zS) 0:=by
  rw[hW4',←k0b];exact (z9n y3d (x:=zS) (ys:=[.int .i64 0,.int .i64 0,.int .i64 0]) (fun _ _=>⟨rfl,y5d,y5d,y5d⟩) nL (by unfold maxLen;omega)).now (bQ.alloc nL _)
 have hb4:=z00 hb3 hb3.size hbe4;have ho44:=ho4.lower hb3.size;have hx4:=hx3.now hbe4;have hz4:=hz3.now hbe4;have hb3s:=hb3.size;have hzl:=hz3.lt;clear hbe4 hW4' ho4 hal1 hx3 hz3 hb3 hn hx4;go_wp2_with fail
 rw[←hW4];clear hW4 x0 x1 lx mk;obtain ⟨g,hgE⟩:∃ g,w3.heap.size+1=g:=⟨_,rfl⟩
 rw[hgE] at hg ⊢;have hgw:w.heap.size+1 < g:=by omega
 generalize w3.heap.size=gR at *;clear hgE hzl;go_loopw [16] (fun i wr=>∃ (k:Nat) (A:Option Addr) (c:Nat),k≤v.t.pts.length∧i=.int .i64 k∧Blk wr g 41 #[.slice (some ⟨gR,0,none⟩) v.t.rts.length v.t.rts.length,.slice A k c]∧z09 cI wr w.heap.size 3 (.slice A k c) (List.replicate k 1) 0∧z09 cRS wr w.heap.size 58 (.slice (some ⟨gR,0,none⟩) v.t.rts.length v.t.rts.length) (List.replicate v.t.rts.length zS) 0∧Below w.heap.size w wr∧Blk wr (w.heap.size+1) 41 #[.slice none 0 0,.slice none 0 0]) (fun i _=>v.t.pts.length - (intOf i).toNat)
 case atStart=>exact ⟨0,none,0,nZ,rfl,hg,z09.nil _ _ _ _ nZ,ho44,hb4,hz4⟩
 case round=>
  obtain ⟨k,A,c,hkl,rfl,hgk,hol,hor,hb,hzk⟩:=hrel;clear hg ho44 hb4 hz4;have hsz:=hb.size;have c0:=hgk.cell 0;have c1:=hgk.cell 1;have lg:=hgk.lt;simp only[gqA,gqZ,gqS] at c0 c1;by_cases hlt:k < v.t.pts.length
  ·have hki:(k:Int) < (v.t.pts.length:Int):=by omega
   have hrl:(List.replicate k (1:Int)).length≤100:=by rw[List.length_replicate];omega
   go_wp2_with (at_builtin;go_loud (refine z0h (c:=cI) _ rfl _ _ 31 rfl w.heap.size 3 i0 _ 8 Tryz.underlying31 hi hz0 hz1 hz2 rfl (by decide) _ (List.replicate k 1) 0 rfl hol [.int .i64 1] 1 ⟨rfl,j1r⟩ (by intro u hu;simp at hu;subst hu;rfl) _ rfl (by omega) (by omega) (by omega) ?_);intro v' w7 hown7 hf7 hs7;obtain ⟨A7,c7,hv7⟩:=hown7.form;rw[qL,List.length_replicate] at hv7;subst hv7;have hg7:=hf7.blk hgk (by decide);have d0:=hg7.cell 0;have d1:=hg7.cell 1;have dl:=hg7.lt;have df:=hg7.free;simp only[gqA,gqZ,gqS] at d0 d1)
   go_roundw
   case rel=>
    have hk1:k+1≤v.t.pts.length:=hlt;have hre:List.replicate k (1:Int)++[1]=List.replicate (k+1) 1:=by rw[List.replicate_succ']
    rw[hre] at hown7;refine ⟨k+1,A7,c7,hk1,by go_num,hg7.set 1 _,hown7.set g 1 _ 41 _ hg7 (by decide) nZ,(hor.frm hf7 (by decide) nZ).set g 1 _ 41 _ hg7 (by decide) nZ,(hf7.keeps nL hsz hb).setCell (p:=⟨g,1,none⟩) (by simp;omega) _,(hf7.blk hzk (by decide)).far (p:=⟨g,1,none⟩) (by simp;omega) _⟩
   case measure=>simp[intOf];omega
  ·have hki:¬(k:Int) < (v.t.pts.length:Int):=by omega
   have hkp:k=v.t.pts.length:=by omega
   subst hkp;have HF:=hE (aIq ((hzk.set 0 (.slice (some ⟨gR,0,none⟩) v.t.rts.length v.t.rts.length)).set 1 (.slice A v.t.pts.length c)) (aIq ((hb.setCell (p:=⟨w.heap.size+1,0,none⟩) (by simp) (.slice (some ⟨gR,0,none⟩) v.t.rts.length v.t.rts.length)).setCell (p:=⟨w.heap.size+1,1,none⟩) (by simp) (.slice A v.t.pts.length c)) (aIq ((hor.set (w.heap.size+1) 0 (.slice (some ⟨gR,0,none⟩) v.t.rts.length v.t.rts.length) 41 _ hzk (by decide) nZ).set (w.heap.size+1) 1 (.slice A v.t.pts.length c) 41 _ (hzk.set 0 _) (by decide) nZ) ((hol.set (w.heap.size+1) 0 (.slice (some ⟨gR,0,none⟩) v.t.rts.length v.t.rts.length) 41 _ hzk (by decide) nZ).set (w.heap.size+1) 1 (.slice A v.t.pts.length c) 41 _ (hzk.set 0 _) (by decide) nZ))));have r0:=hzk.cell 0;have r1:=hzk.cell 1;have rf:=hzk.free;have rl:=hzk.lt;simp only[gqA,gqZ,gqS] at r0 r1;go_wp2_with fail
   obtain ⟨p,hbf,h5,h6⟩:=HF.out;have p0:=p.cell 0;have p1:=p.cell 1;have pl:=p.lt;simp only[gqA,gqZ,gqS,lsz,lss,lsa] at p0 p1;have e1:(v.t.rts.map fun _=>zS)=List.replicate v.t.rts.length zS:=List.map_const' ..;have e2:(v.t.pts.map fun _=>(1:Int))=List.replicate v.t.pts.length 1:=List.map_const' ..;refine bodyPost_ret (v:=.agg #[.slice (some ⟨gR,0,none⟩) v.t.rts.length v.t.rts.length,.slice A v.t.pts.length c]) (by simp[results,Tryz.results8,go_sem,p0,p1,pl]) rfl ⟨⟨x26 v.t,some ⟨gR,0,none⟩,A,v.t.rts.length,c⟩,?_,rfl,?_,hbf⟩
   ·rw[HST.out];simp
   ·refine ⟨?_,?_⟩
    ·rw[HST.out,e1,List.length_replicate];exact h5
    ·rw[HST.out,e2,List.length_replicate];exact h6
end Go.Proofs.YtpenlfedkacglaaGreatDoor
