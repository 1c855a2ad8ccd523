import Derived.Test.YtpenlfedkacglaaGreatDoorL01
import Derived.Deep.Cut
import Derived.Deep.RegionHeld
import Derived.Deep.RegionHeld3
import Derived.Deep.RegionLawGrows
import Derived.DeepKeys4
import Derived.Maps.OwnSet
import Derived.Maps.RangeWalk
import Derived.Orders
import Derived.OrdersHeld
import Derived.OwnWalk
import Derived.Shelf.SlicesQ.Load
set_option maxRecDepth 100000
set_option maxHeartbeats 40000000
set_option linter.all false
namespace Go.Proofs.YtpenlfedkacglaaGreatDoor
open Go.RowKit
section
variable {w:World} {S:Nat→Prop} {A:Option Addr}
theorem RdS.elS {l:List (List UInt8)} (h:RdS cS w S A l) {i:Nat} (hi:i < l.length) :
  ∃ b off,A=some ⟨b,off,none⟩∧S b∧l[i].length≤maxLen∧w.cell? ⟨b,off+i,none⟩=some (.string (bs l[i])):=by
 obtain ⟨b,off,h1,h2,h3⟩:=h (by omega);obtain ⟨ys,⟨rfl,h4⟩,h5⟩:=h3 i l[i] (gqE hi);have:=h5 0 _ rfl;have e:off+i*cS.size+0=off+i:=by simp[cS]
 rw[e] at this;exact ⟨b,off,h1,h2,h4,this⟩
end
theorem lsa {α:Type} (l:List α) (i:Nat) (a:α):l.toArray.setIfInBounds i a=(l.set i a).toArray:=List.setIfInBounds_toArray l i a
theorem lsz {α:Type} (x a:α) (l:List α):(x::l).set 0 a=a::l:=List.set_cons_zero
theorem lss {α:Type} (x a:α) (l:List α) (n:Nat):(x::l).set (n+1) a=x::l.set n a:=List.set_cons_succ
theorem tkY {P:Program} {md:Region.Mode} {ops:Array Oper} {Q:Exit→Act→World→Prop} {S:World→Prop} {i:Nat} {oi:Oper} {v:Value} {fuel:Nat} {listed:Array Bool} {a:Act} {w:World} (hi:ops[i]? = some oi)
  (hc:(Region.noSelect ops && (Region.free md ops listed i && (Region.ready md ops listed).contains i))=true)
  (hQ:∀ c a w,Q (.panic c) (a.put oi.dst v) w→Q (.panic c) a w) (hy:YieldsIf P ops S oi v a) (hS:S w)
  (h:wpAnyH P md ops Q S fuel (listed.setIfInBounds i true) (a.put oi.dst v) w):wpAnyH P md ops Q S (fuel+1) listed a w:=by
 rw[uT,uT] at hc;exact wpAnyH_take hi hc.1 hc.2.1 hc.2.2 hQ hy hS h
theorem wdn {P:Program} {md:Region.Mode} {ops:Array Oper} {Q:Exit→Act→World→Prop} {S:World→Prop} {listed:Array Bool} {a:Act} {w:World} {fuel:Nat} (h:Q .normal a w) (hr:Region.ready md ops listed=[]:=by kernel_rfl):wpAnyH P md ops Q S fuel listed a w:=wpAnyH_done hr h fuel
theorem rgH {P:Program} {ops:Array Oper} {Q:Exit→Act→World→Prop} {S:World→Prop} {id:Nat} {a:Act} {w:World} (n:Nat) (hS:S w.drew) (h:S w.drew→wpAnyH P .any ops Q S n (Array.replicate n false) a w.drew) (hm:P.follows .mixedOrders=true:=by kernel_rfl) (hn:ops.size=n:=by rfl):(Code.region id ops true).wp P Q a w:=by
  subst hn
  exact wp_region_held_drew hm hS h
theorem rgR {P:Program} {ops:Array Oper} {Q:Exit→Act→World→Prop} {R S:World→Prop} {id:Nat} {a:Act} {w:World} (n:Nat) (HSS:Hid (∀ W,R W→S W)) (hR:R w.drew) (h:S w.drew→wpAnyH P .any ops Q S n (Array.replicate n false) a w.drew) (hm:P.follows .mixedOrders=true:=by kernel_rfl) (hn:ops.size=n:=by rfl):(Code.region id ops true).wp P Q a w:=rgH n (HSS.out _ hR) h hm hn
theorem j8a {P:Program} {ops:Array Oper} {Q:Exit→Act→World→Prop} {R R2 S:World→Prop} {id:Nat} {a:Act} {w:World} (n:Nat) (HSS:Hid (∀ W,R W→R2 W→S W)) (hR:R w.drew) (hR2:R2 w.drew) (h:S w.drew→wpAnyH P .any ops Q S n (Array.replicate n false) a w.drew) (hm:P.follows .mixedOrders=true:=by kernel_rfl) (hn:ops.size=n:=by rfl):(Code.region id ops true).wp P Q a w:=rgH n (HSS.out _ hR hR2) h hm hn
theorem rd1 {P:Program} {md:Region.Mode} {ops:Array Oper} {Q:Exit→Act→World→Prop} {S:World→Prop} {fuel:Nat} {listed:Array Bool} {a:Act} {w:World} {d:Option Nat} {op:Op} {ty:TypeId} {ps:String} {af:Array Edge} {g:Option (Nat × Bool)} (i:Nat) (ho:ops[i]?=some (.mk d op ty ps af g)) (h:∀ K':Act→World→Prop,Shut (∀ a w,S w→(S w→wpAnyH P md ops Q S fuel (listed.setIfInBounds i true) a w)→K' a w)→if Region.wanted (.mk d op ty ps af g) (yielded ops a.tmps)=true then Oper.wp P (.mk d op ty ps af g) a w K' Q else K' (a.put (Oper.dst (.mk d op ty ps af g)) undef) w) (hr:Region.ready md ops listed=[i]:=by kernel_rfl):wpAnyH P md ops Q S (fuel+1) listed a w:=wpAnyH_ready hr (by simp) (AllReadyH.cons ho h AllReadyH.nil)
/-- Operations taken one behind the other: what each yields holds in every world that S allows. -/
def TkL (P : Program) (md : Region.Mode) (ops : Array Oper) (S : World → Prop) : List Nat → Array Bool → Act → Array Bool → Act → Prop
  | [], l, a, l', a' => l' = l ∧ a' = a
  | i :: ks, l, a, l', a' => ∃ d op ty ps af g v, ops[i]? = some (.mk d op ty ps af g) ∧ (Region.noSelect ops && (Region.free md ops l i && (Region.ready md ops l).contains i)) = true ∧ YieldsIf P ops S (.mk d op ty ps af g) v a ∧ TkL P md ops S ks (l.setIfInBounds i true) (a.put d v) l' a'
theorem tkC {P : Program} {md : Region.Mode} {ops : Array Oper} {S : World → Prop} {i : Nat} {ks : List Nat} {d : Option Nat} {op : Op} {ty : TypeId} {ps : String} {af : Array Edge} {g : Option (Nat × Bool)} {v : Value} {l l' : Array Bool} {a a' : Act} (h1 : ops[i]? = some (.mk d op ty ps af g)) (h2 : (Region.noSelect ops && (Region.free md ops l i && (Region.ready md ops l).contains i)) = true) (h3 : YieldsIf P ops S (.mk d op ty ps af g) v a) (h : TkL P md ops S ks (l.setIfInBounds i true) (a.put d v) l' a') : TkL P md ops S (i :: ks) l a l' a' := ⟨d, op, ty, ps, af, g, v, h1, h2, h3, h⟩
theorem tkE {P : Program} {md : Region.Mode} {ops : Array Oper} {S : World → Prop} {l : Array Bool} {a : Act} : TkL P md ops S [] l a l a := ⟨rfl, rfl⟩
theorem tkM {P : Program} {md : Region.Mode} {ops : Array Oper} {Q : Exit → Act → World → Prop} {S : World → Prop} (k : Nat) (ks : List Nat) {fuel : Nat} {l l' : Array Bool} {a a' : Act} {w : World} (h : wpAnyH P md ops Q S fuel l' a' w)
    (hc : TkL P md ops S ks l a l' a' := by
      repeat (apply tkC; exact rfl; kernel_rfl; (first | exact Or.inr ⟨rfl, rfl⟩ | exact Or.inl ⟨by rfl, fun W hSw => by ((try dsimp only at hSw); go_simp; first | done | with_reducible rfl)⟩); try simp only [Act.put, lsa, lsz, lss])
      exact tkE)
    (hk : ks.length = k := by rfl) (hQ : ∀ c a d v w, Q (.panic c) (Act.put a (some d) v) w → Q (.panic c) a w := by exact fun _ _ _ _ _ h => h) (hS : S w := by assumption) : wpAnyH P md ops Q S (fuel + k) l a w := by
  subst hk
  induction ks generalizing l a with
  | nil =>
    obtain ⟨rfl, rfl⟩ := hc
    exact h
  | cons i ks ih =>
    obtain ⟨d, op, ty, ps, af, g, v, h1, h2, h3, h4⟩ := hc
    refine tkY h1 h2 (fun c a w h => ?_) h3 hS (ih h4)
    cases d with
    | none => exact h
    | some d => exact hQ _ _ _ _ _ h
theorem rgS {P:Program} {ops:Array Oper} {Q:Exit→Act→World→Prop} {S:World→Prop} {id:Nat} {a:Act} {w:World} {m:Nat} (n:Nat) (HSS:Hid (∀ W,Below m w W→S W)) (h:S w.drew→wpAnyH P .any ops Q S n (Array.replicate n false) a w.drew) (hm:P.follows .mixedOrders=true:=by kernel_rfl) (hn:ops.size=n:=by rfl):(Code.region id ops true).wp P Q a w:=rgH n (HSS.out _ (Below.refl _ _).drew) h hm hn
theorem rd2 {P:Program} {md:Region.Mode} {ops:Array Oper} {Q:Exit→Act→World→Prop} {S:World→Prop} {fuel:Nat} {listed:Array Bool} {a:Act} {w:World} {d:Option Nat} {op:Op} {ty:TypeId} {ps:String} {af:Array Edge} {g:Option (Nat × Bool)} {d2:Option Nat} {op2:Op} {ty2:TypeId} {ps2:String} {af2:Array Edge} {g2:Option (Nat × Bool)} (i j:Nat) (ho:ops[i]?=some (.mk d op ty ps af g)) (ho2:ops[j]?=some (.mk d2 op2 ty2 ps2 af2 g2)) (h:∀ K':Act→World→Prop,Shut (∀ a w,S w→(S w→wpAnyH P md ops Q S fuel (listed.setIfInBounds i true) a w)→K' a w)→if Region.wanted (.mk d op ty ps af g) (yielded ops a.tmps)=true then Oper.wp P (.mk d op ty ps af g) a w K' Q else K' (a.put (Oper.dst (.mk d op ty ps af g)) undef) w) (h2:∀ K':Act→World→Prop,Shut (∀ a w,S w→(S w→wpAnyH P md ops Q S fuel (listed.setIfInBounds j true) a w)→K' a w)→if Region.wanted (.mk d2 op2 ty2 ps2 af2 g2) (yielded ops a.tmps)=true then Oper.wp P (.mk d2 op2 ty2 ps2 af2 g2) a w K' Q else K' (a.put (Oper.dst (.mk d2 op2 ty2 ps2 af2 g2)) undef) w) (hr:Region.ready md ops listed=[i,j]:=by kernel_rfl):wpAnyH P md ops Q S (fuel+1) listed a w:=wpAnyH_ready hr (by simp) (AllReadyH.cons ho h (AllReadyH.cons ho2 h2 AllReadyH.nil))
def tmL (t:Array Value):Nat→List Value→List Value
 | 0,acc=>acc
 | n+1,acc=>tmL t n (t[n]?.getD undef::acc)
theorem j4f (t:Array Value) (n:Nat) (acc:List Value) (i:Nat):(tmL t n acc)[i]?=if i < n then some (t[i]?.getD undef) else acc[i-n]?:=by
 induction n generalizing acc with
 | zero=>simp[tmL]
 | succ n ih=>
  rw[tmL,ih]
  by_cases h:i < n
  ·rw[if_pos h,if_pos (by omega)]
  ·rw[if_neg h]
   by_cases h2:i=n
   ·subst h2;rw[if_pos (by omega),Nat.sub_self];rfl
   ·rw[if_neg (by omega),show i-n=(i-(n+1))+1 by omega];rfl
theorem y89 (t:Array Value) (n:Nat) (h:t.size=n):t=(tmL t n []).toArray:=by
 apply Array.ext_getElem?
 intro i
 rw[(List.getElem?_toArray:(tmL t n []).toArray[i]?=(tmL t n [])[i]?),j4f]
 by_cases hi:i < n
 ·rw[if_pos hi,Array.getElem?_eq_getElem (by omega)];rfl
 ·rw[if_neg hi,Array.getElem?_eq_none (by omega)];rfl
theorem y87 {a:Act} {T:Array Value} (h:a.tmps=T) (hd:a.defers=[]):a=⟨T,[]⟩:=by
 cases a
 simp only[Act.mk.injEq]
 exact ⟨h,hd⟩
theorem z0i {a b:Int} (h:a=b):Ending.returned (.int .i64 a)=.returned (.int .i64 b):=by rw[h]
theorem fields_of {P:Program} {t:TypeId} {fs:Array Field} (h:P.underlying t=some (.struct fs)):P.fieldsOf t=fs:=by unfold Program.fieldsOf;rw[h]
theorem z7o {w:World} {base base':Nat} {e:TypeId} {size n:Nat} {v:Value} {xs:List Value} (h:w.ownsRow base' e size v n xs) (hb:base≤base'):w.ownsRow base e size v n xs:=by
 refine ⟨h.1,?_⟩;rcases h.2 with h | ⟨g,cap,cur,h1,h2,h3⟩
 ·exact Or.inl h
 ·exact Or.inr ⟨g,cap,cur,h1,by omega,h3⟩
theorem z0g {g j:Nat}:(⟨g,0,none⟩:Addr).add j=⟨g,j,none⟩:=by
 unfold Addr.add;split
 ·rename_i h0;subst h0;rfl
 ·simp
theorem x1h {P:Program} (w:World) (base:Nat) (t ty e:TypeId) (i:TypeInfo) (z:Value) (size bytes:Nat) (ht:P.underlying t=some (.slice e)) (hi:P.info? e=some i) (hz:i.zero=some z)
  (hsize:i.size=size) (hby:i.bytes=bytes) (hzs:z.cells.size=size) (hsz:0 < size) (v:Value) (n:Nat) (xs:List Value) (hown:w.ownsRow base e size v n xs)
  (a:Addr) (m c:Nat) (news:List Value) (hl:news.length=m*size) (hnews:∀ j u,news[j]? = some u→w.cell? (a.add j)=some u) (h1:∀ u∈news,u.oneCell' = true)
  (h63:n+m≤maxLen) (hbytes:(n+m)*bytes≤140737488355328) (hbase:base≤w.heap.size) :
  ∃ v' w',(Builtin.append_ #[t,t] ty #[v,.slice (some a) m c]).run P w=.ok v' w'∧w'.ownsRow base e size v' (n+m) (xs++news)∧w.grownBy w' v.ownBlock∧w'.ownsRow base e size v n xs:=by
 have hw:=hown;rcases hown.2 with ⟨rfl,h0⟩ | ⟨g,cap,cur,rfl,hbg,hg,hnc,hcm,hcs,htake⟩
 ·obtain ⟨v',w',h2,h3,h4,_⟩:=run_append_own (P:=P) w base t ty e i z size bytes ht hi hz hsize hby hzs hsz _ n xs hw a m c news hl hnews h1 h63 hbytes hbase;exact ⟨v',w',h2,h3,h4,hw.1,Or.inl ⟨rfl,h0⟩⟩
 ·by_cases hfit:n+m≤cap
  ·obtain ⟨w',h2,h3,h4⟩:=run_append_fits (P:=P) w base t ty e i size ht hi hsize g n cap xs hw a m c news hl hnews h1 hfit;refine ⟨_,w',h2,h3,h4,hw.1,?_⟩;rcases h3.2 with ⟨h5,_⟩ | ⟨g',cap',cur',hv,hb',hg',hn',hm',hs',ht'⟩
   ·cases h5
   ·simp only[Value.slice.injEq,qE,Addr.mk.injEq] at hv;obtain ⟨⟨rfl,_,_⟩,_,rfl⟩:=hv;refine Or.inr ⟨g,cap,cur',rfl,hbg,hg',hnc,hcm,hs',?_⟩;have hxl:xs.length=n*size:=by simpa using hw.1
    have h6:=congrArg (List.take (n*size)) ht';rw[List.take_take,←hxl,List.take_left',Nat.min_eq_left (by rw[hxl];exact Nat.mul_le_mul_right _ (by omega))] at h6
    ·rw[←hxl];exact h6
    ·rfl
  ·obtain ⟨v',w',h2,h3,h4⟩:=run_append_arg_grows (P:=P) w t ty e i z size bytes ht hi hz hsize hby hzs hsz ⟨g,0,none⟩ n cap xs (by simpa using hw.1) (fun j u hj=>by
    have hjl:=(List.getElem?_eq_some_iff.1 hj).1;have hxl:xs.length=n*size:=by simpa using hw.1
    rw[z0g,World.ownsRow.cellAt hw j (by omega),hj]) a m c news hl hnews (by omega) h63 hbytes
   exact ⟨v',w',h2,z7o h3 hbase,⟨h4.os,h4.tape,h4.output,h4.size,fun k hk _=>h4.block k hk (by simp)⟩,hw.kept h4 (Or.inr (by simp[Value.ownBlock]))⟩
section
variable {P:Program} {α:Type} {c:Cod α}
end
section
variable {α:Type} {c:Cod α} {w w':World} {S:Nat→Prop}
theorem RdS.rest {b off:Nat} {x:α} {l:List α} (h:RdS c w S (some ⟨b,off,none⟩) (x::l)):RdS c w S (some ⟨b,off+c.size,none⟩) l:=by
 intro hl;obtain ⟨b',off',h1,h2,h3⟩:=h (by simp);simp only[qE,Addr.mk.injEq,and_true] at h1;obtain ⟨rfl,rfl⟩:=h1;refine ⟨_,_,rfl,h2,fun i y hy=>?_⟩;obtain ⟨ys,h4,h5⟩:=h3 (i+1) y (by simpa using hy);refine ⟨ys,h4,fun j u hu=>?_⟩;have:=h5 j u hu;rw[show off+(i+1)*c.size+j=off+c.size+i*c.size+j by rw[Nat.succ_mul];omega] at this;exact this
theorem RdS.cells:∀ {l:List α} {b off:Nat},RdS c w S (some ⟨b,off,none⟩) l→∃ news,RdC c w S news l∧∀ (j:Nat) (u:Value),news[j]? = some u→w.cell? ⟨b,off+j,none⟩=some u
 | [],b,off,_=>⟨[],rfl,fun j u h=>by simp at h⟩
 | x::l,b,off,h=>by
  obtain ⟨b',off',h1,h2,h3⟩:=h (by simp);simp only[qE,Addr.mk.injEq,and_true] at h1;obtain ⟨rfl,rfl⟩:=h1;obtain ⟨ys,h4,h5⟩:=h3 0 x rfl;obtain ⟨zs,h6,h7⟩:=RdS.cells h.rest;refine ⟨ys++zs,⟨ys,zs,rfl,h4,h6⟩,fun j u hu=>?_⟩;have hn:=c.len h4;by_cases hj:j < ys.length
  ·rw[List.getElem?_append_left hj] at hu;have:=h5 j u hu;rw[Nat.zero_mul,Nat.add_zero] at this;exact this
  ·rw[List.getElem?_append_right (by omega),hn] at hu;have:=h7 _ u hu;rw[show off+c.size+(j - c.size)=off+j by omega] at this;exact this
theorem RdC.app:∀ {l m:List α} {xs ys:List Value},RdC c w S xs l→RdC c w S ys m→RdC c w S (xs++ys) (l++m)
 | [],m,xs,ys,h,h2=>by simp[RdC] at h;subst h;exact h2
 | a::l,m,xs,ys,⟨y,z,h1,h2,h3⟩,h4=>⟨y,z++ys,by rw[h1,List.append_assoc],h2,RdC.app h3 h4⟩
theorem RdC.one (hone:∀ (ys:List Value) (x:α),c.rd w S ys x→∀ u∈ys,u.oneCell' = true):∀ {l:List α} {xs:List Value},RdC c w S xs l→∀ u∈xs,u.oneCell' = true
 | [],xs,h,u,hu=>by simp[RdC] at h;subst h;simp at hu
 | a::l,xs,⟨y,z,h1,h2,h3⟩,u,hu=>by
  rw[h1] at hu;rcases List.mem_append.1 hu with hu | hu
  ·exact hone y a h2 u hu
  ·exact RdC.one hone h3 u hu
end
def y1e {α:Type} (c:Cod α) (w:World) (base:Nat) (e:TypeId) (v:Value) (l:List α):Prop:=∃ xs,w.ownsRow base e c.size v l.length xs∧RdC c w (fun b=>b < base) xs l∧base≤w.heap.size
section
variable {α:Type} {c:Cod α} {w w':World} {base:Nat} {e:TypeId} {v:Value} {l:List α}
theorem y1e.empty (c:Cod α) (w:World) (e:TypeId):y1e c (w.alloc (.cells #[] e)) w.heap.size e (.slice (some ⟨w.heap.size,0,none⟩) 0 0) ([]:List α):=
 ⟨[],⟨by simp,Or.inr ⟨_,0,#[],rfl,nL,heap_alloc_new w _,nL,nZ,by simp,by simp⟩⟩,rfl,by simp⟩
theorem y1e.reads (h:y1e c w base e v l):∃ A cap,v=.slice A l.length cap∧(l.length≤maxLen∧l.length≤cap)∧RdS c w (Lt w) A l:=by
 obtain ⟨xs,h1,h2,h3⟩:=h;rcases h1.2 with ⟨rfl,h0⟩ | ⟨g,cap,cur,rfl,hb,hg,hcap,hm,htake⟩
 ·exact ⟨none,0,by rw[h0],by omega,fun hl=>by omega⟩
 ·refine ⟨_,_,rfl,⟨nR hcap hm,hcap⟩,fun _=>⟨g,0,rfl,z0j hg,fun i x hx=>?_⟩⟩;obtain ⟨ys,h4,h5⟩:=h2.get hx;refine ⟨ys,c.more h4 (fun b hb=>nT hb h3),fun j u hu=>?_⟩;have h6:=h5 j u hu;rw[Nat.zero_add,cell_of_row w g _ cur e (0,0) hg];rw[←htake.2,List.getElem?_take] at h6;split at h6
  ·simpa using h6
  ·cases h6
end
section
variable {P:Program} {α:Type} {c:Cod α}
theorem z7a (w:World) (base:Nat) (t ty e:TypeId) (i:TypeInfo) (size:Nat) (ht:P.underlying t=some (.slice e)) (hi:P.info? e=some i)
  (v:Value) (n:Nat) (xs:List Value) (hown:w.ownsRow base e size v n xs) (k:Nat):(Builtin.append_ #[t,t] ty #[v,.slice none 0 k]).run P w=.ok v w:=by
 rcases hown.2 with ⟨rfl,rfl⟩ | ⟨g,cap,cur,rfl,_,_,hnc,_⟩
 ·simp[Builtin.append_,run_underlying ht,sizeOf,typeInfo,hi,Builtin.lenOf,Builtin.firstCells]
 ·simp[Builtin.append_,run_underlying ht,sizeOf,typeInfo,hi,Builtin.lenOf,Builtin.firstCells,hnc,storeCells]
theorem z3e (w:World) {ops:Array Oper} {rest:List Oper} {o:Oper} {a:Act} {Q:Exit→Act→World→Prop} (hgd:o.guard=none) (s x:Operand) (t:TypeId)
  (ho:o.op=.call { callee:=.builtin .append,args:=#[s,x],argTypes:=#[t,t] })
  (base:Nat) (e:TypeId) (i:TypeInfo) (z:Value) (bytes:Nat) (ht:P.underlying t=some (.slice e)) (hi:P.info? e=some i) (hz:i.zero=some z) (hsize:i.size=c.size) (hby:i.bytes=bytes) (hzs:z.cells.size=c.size) (hc:0 < c.size)
  (v:Value) (l:List α) (hs:a.eval s=v) (hown:y1e c w base e v l) (A:Option Addr) (k:Nat) (l2:List α) (hx:a.eval x=.slice A l2.length k) (hr:RdS c w (fun b=>b < base) A l2)
  (hone:∀ (ys:List Value) (x:α),c.rd w (fun b=>b < base) ys x→∀ u∈ys,u.oneCell' = true) (hlen:l.length+l2.length≤100000) (hbl:bytes≤1000)
  (h:∀ v' w',y1e c w' base e v' (l++l2)→Below base w w'→wpList P ops Q rest (a.put o.dst v') w'):wpList P ops Q (o::rest) a w:=by
 obtain ⟨xs,h1,h2,hbase⟩:=hown
 cases A with
 | none=>
  have hl2:l2=[]:=by
   cases l2 with
   | nil=>rfl
   | cons y r=>obtain ⟨b,off,h3,_⟩:=hr (by simp);cases h3
  subst hl2;refine wpList_plain hgd fun K hK=>?_
  have hrun:=z7a (P:=P) w base t o.type e i c.size ht hi v l.length xs h1 k;unfold Oper.wp execOp;simp only[List.length_nil] at hx;simp only[ho,resolve,invoke,builtin,Sem.run_bind,Sem.run_pure,Result.andThen_ok,List.map_toArray,List.map_cons,List.map_nil,hs,hx,hrun]
  exact hK _ _ (h v w (by rw[List.append_nil];exact ⟨xs,h1,h2,hbase⟩) bQ)
 | some ad=>
  obtain ⟨news,h3,h4⟩:∃ news,RdC c w (fun b=>b < base) news l2∧∀ (j:Nat) (u:Value),news[j]? = some u→w.cell? (ad.add j)=some u:=by
   cases l2 with
   | nil=>exact ⟨[],rfl,fun j u hu=>by simp at hu⟩
   | cons y r=>
    obtain ⟨b,off,h5,_⟩:=hr (by simp);simp only[qE] at h5;subst h5;obtain ⟨news,h6,h7⟩:=hr.cells;refine ⟨news,h6,fun j u hu=>?_⟩;have:(⟨b,off,none⟩:Addr).add j=⟨b,off+j,none⟩:=by
     unfold Addr.add;split
     ·rename_i h0;subst h0;rfl
     ·rfl
    rw[this];exact h7 j u hu
  refine wpList_append_own _ hgd s x t ho base e i z c.size bytes ht hi hz hsize hby hzs hc v l.length xs hs h1 ad l2.length k news hx h3.len h4 (h3.one hone)
   (by unfold maxLen;omega) (nR (Nat.mul_le_mul (show l.length+l2.length≤1000000 by omega) hbl) (by omega)) hbase ?_
  intro v' w' h5 h6 _;have hf:=y2g h1 h6;have hb:Below base w w':=⟨hf.os,hf.tape,hf.output,hf.size,fun k hk=>hf.low k hk (by omega)⟩
  refine h v' w' ⟨xs++news,by rw[qL];exact h5,?_,nR hbase hf.size⟩ hb;exact (h2.app h3).keep fun p hp=>z0k (hb.block _ hp)
end
open Go.Maps (Keyed IsMap)
section
variable {H:Type}
theorem y1p {P:Program} {e:TypeId} (he:P.underlying e=some .bool) {v:Value} {z:DataW H × List MemPlace} (h:plainElem P e v=some z):∃ b,v=.bool b∧z=(.lit (.bool b),[]):=by
 unfold plainElem at h;rw[he] at h;cases v <;> simp at h;exact ⟨_,rfl,h.symm⟩
theorem y1w (u z:DataW H) (k:Lit):∀ (acc:List Lit) (m:DataW H),IsMap m→(∀ x∈acc,WideAt.IsKeyLit x)→(acc.foldl (fun m x=>m.put x u) m).atKey k z=if acc.any (fun x=>x.sameKey k) then u else m.atKey k z
 | [],m,_,_=>by simp
 | x::r,m,hm,h=>by
  have hx:=h x (by simp);rw[List.foldl_cons,y1w u z k r (m.put x u) (hm.put x u) (fun y hy=>h y (by simp[hy])),List.any_cons];by_cases e:k=x
  ·subst e;rw[Maps.atKey_put_same hm hx,WideAt.sameKey_self hx];simp
  ·rw[Maps.atKey_put_other e,Maps.sameKey_ne (fun e'=>e e'.symm)];simp
theorem y6q (u z:DataW H) (k:Lit) (acc:List Lit) (h:∀ x∈acc,WideAt.IsKeyLit x):(Maps.setOf u acc).atKey k z=if acc.any (fun x=>x.sameKey k) then u else z:=by
 rw[Maps.setOf,y1w u z k acc _ Maps.isMap_empty h];rfl
end
def z8w (P:Program) (k e:TypeId) (w:World) (b n:Nat) (ks:List Lit):Prop:=w.ownsMap (H:=Unit) P k (plainElem P e) b n (Maps.setOf (.lit (.bool true)) ks)∧∀ x∈ks,WideAt.IsKeyLit x
section
variable {P:Program} {k e:TypeId} {w w':World} {b n:Nat} {ks:List Lit}
theorem z8w.made (w:World) (P:Program) (k e:TypeId) (b:Nat) (hb:b=w.heap.size):z8w P k e (w.alloc (.map #[] 0)) b 0 []:=by
 subst hb;exact ⟨World.ownsMap_made _ _ _ _,by simp⟩
theorem z8w.now (h:z8w P k e w b n ks) (hb:Below w.heap.size w w'):z8w P k e w' b n ks:=
 ⟨h.1.kept (row:=none) ⟨hb.os,hb.tape,hb.output,hb.size,fun i hi _=>hb.block i hi⟩ (by simp),h.2⟩
theorem z8w.alloc (h:z8w P k e w b n ks) (o:Obj):z8w P k e (w.alloc o) b n ks:=⟨h.1.alloc o,h.2⟩
end
section
variable {P:Program} (w:World) {ops:Array Oper} {rest:List Oper} {o:Oper} {a:Act} {Q:Exit→Act→World→Prop}
theorem y1b (hg:o.guard=none) (m x:Operand) (t:TypeId) (hop:o.op=Op.lookup t m x false) (k e:TypeId) (K:Keyed P k) (ht:P.underlying t=some (.map k e)) (he:P.underlying e=some .bool) (hz:(zeroValue e).run P w=.ok (.bool false) w)
  (b n:Nat) (ks:List Lit) (hm:a.eval m=.map (some b)) (hown:z8w P k e w b n ks) (key:Value) (kl:Lit) (hx:a.eval x=key) (hkey:keyOf P k key=some kl)
  (hK:wpList P ops Q rest (a.put o.dst (.bool (ks.any fun x=>x.sameKey kl))) w):wpList P ops Q (o::rest) a w:=by
 refine wpList_plain hg fun K' hK'=>?_
 obtain ⟨v,ps,hrun,hv⟩:=hown.1.lookup K ht hz (plainElem_bool he false) hkey;obtain ⟨c,rfl,hc⟩:=y1p he hv;rw[y6q _ _ _ _ hown.2] at hc;have hcc:c=ks.any fun x=>x.sameKey kl:=by
  cases hh:ks.any fun x=>x.sameKey kl <;> rw[hh] at hc <;> simp at hc <;> simp[hc]
 subst hcc;unfold Oper.wp;simp only[execOp,hop,hm,hx,Sem.run_bind,hrun,Result.andThen];exact hK' _ _ hK
theorem z3g (hg:o.guard=none) (m x v:Operand) (t:TypeId) (hop:o.op=Op.mapUpdate t m x v) (k e:TypeId) (K:Keyed P k) (ht:P.underlying t=some (.map k e)) (he:P.underlying e=some .bool)
  (b n:Nat) (ks:List Lit) (hm:a.eval m=.map (some b)) (hown:z8w P k e w b n ks) (hn:n < maxLen) (key:Value) (kl:Lit) (hx:a.eval x=key) (hv:a.eval v=.bool true) (hkey:keyOf P k key=some kl)
  (hK:∀ w',z8w P k e w' b (n+1) (ks++[kl])→w.grownBy w' (some b)→wpList P ops Q rest (a.put o.dst undef) w'):wpList P ops Q (o::rest) a w:=by
 refine wpList_mapUpdate_own (H:=Unit) w hg m x v t hop k e K ht (plainElem P e) b n _ hm hown.1 hn key (.bool true) kl hx hv hkey (.lit (.bool true)) [] (plainElem_bool he true) fun w' h1 h2=>hK w' ⟨?_,?_⟩ h2
 ·rw[Maps.setOf_snoc];exact h1
 ·intro y hy;rcases List.mem_append.1 hy with hy | hy
  ·exact hown.2 y hy
  ·simp only[List.mem_singleton] at hy;subst hy;exact K.key hkey
end
theorem x2j (l:List (List UInt8)) (s:List UInt8):(l.map Lit.string).any (fun x=>x.sameKey (.string s))=decide (s∈l):=by
 rw[Bool.eq_iff_iff];simp only[List.any_eq_true,List.mem_map,dET];constructor
 ·rintro ⟨x,⟨y,hy,rfl⟩,h⟩;have:=WideAt.sameKey_eq h;simp at this;exact this▸hy
 ·exact fun h=>⟨_,⟨s,h,rfl⟩,WideAt.sameKey_self trivial⟩
theorem any_int (l:List Int) (n:Int):(l.map (Lit.int .i64)).any (fun x=>x.sameKey (.int .i64 n))=decide (n∈l):=by
 rw[Bool.eq_iff_iff];simp only[List.any_eq_true,List.mem_map,dET];constructor
 ·rintro ⟨x,⟨y,hy,rfl⟩,h⟩;have:=WideAt.sameKey_eq h;simp at this;exact this▸hy
 ·exact fun h=>⟨_,⟨n,h,rfl⟩,WideAt.sameKey_self trivial⟩
theorem z7u:Keyed Tryz.prog 9:=Maps.string_keyed Tryz.underlying9
theorem y2h:Keyed Tryz.prog 3:=Maps.int_keyed Tryz.underlying3
theorem z4o (w:World):(zeroValue 4).run Tryz.prog w=.ok (.bool false) w:=by kernel_rfl
theorem y0y (l:List UInt8) (h:l.length≤maxLen):keyOf Tryz.prog 9 (.string (bs l))=some (.string l):=Go.WideMaps.keyOf_string_mk Tryz.underlying9 (by rw[z05];exact h)
theorem x3q (n:Int) (h:z0p n):keyOf Tryz.prog 3 (.int .i64 n)=some (.int .i64 n):=Maps.keyOf_int_mk Tryz.underlying3 (by unfold z0p at h;simp[Lit.wf,IntKind.min,IntKind.max,IntKind.signed,IntKind.bits];omega)
theorem y8q:(Tryz.prog.info? 9).map (fun i=>(i.zero,i.size,i.bytes))=some (some (.string ByteArray.empty),1,16):=by kernel_rfl
theorem z0u {P:Program} (w:World) {ops:Array Oper} {rest:List Oper} {o:Oper} {a:Act} {Q:Exit→Act→World→Prop} (hg:o.guard=none) (m x:Operand) (t:TypeId) (hop:o.op=Op.lookup t m x false) (k e:TypeId) (K:Keyed P k) (ht:P.underlying t=some (.map k e)) (he:P.underlying e=some .bool) (hz:(zeroValue e).run P w=.ok (.bool false) w)
  (b n:Nat) (ks:List Lit) (hm:a.eval m=.map (some b)) (hown:z8w P k e w b n ks) (key:Value) (kl:Lit) (hx:a.eval x=key) (hkey:keyOf P k key=some kl) (c:Bool) (hc:(ks.any fun x=>x.sameKey kl)=c)
  (hK:wpList P ops Q rest (a.put o.dst (.bool c)) w):wpList P ops Q (o::rest) a w:=by
 subst hc;exact y1b w hg m x t hop k e K ht he hz b n ks hm hown key kl hx hkey hK
theorem z3z {α:Type} {l:List α} {k:Nat} (h:k < l.length) (hn:(l.take k).Nodup) (hx:l[k]∉l.take k):(l.take (k+1)).Nodup:=by
 rw[tqS h,List.nodup_append];exact ⟨hn,by simp,fun a ha b hb=>by simp only[List.mem_singleton] at hb;subst hb;exact fun e=>hx (e▸ha)⟩
theorem z5u {α:Type} {l:List α} {k:Nat} (h:k < l.length) (hx:l[k]∈l.take k):¬l.Nodup:=by
 intro hn;obtain ⟨i,hi,he⟩:=List.mem_iff_getElem.1 hx;simp only[List.getElem_take] at he;rw[lTk] at hi;exact List.pairwise_iff_getElem.1 hn i k (by omega) h (by omega) he
theorem z8n {α:Type} {p:α→Bool} {l:List α} {k:Nat} (h:k < l.length) (hp:p l[k]=false):l.all p=false:=by
 rw[Bool.eq_false_iff];intro h2;rw[List.all_eq_true.1 h2 l[k] (uE h)] at hp;cases hp
theorem map_take {α β:Type} {l:List α} {k:Nat} (f:α→β) (h:k < l.length):(l.take (k+1)).map f=(l.take k).map f++[f l[k]]:=by
 rw[tqS h,List.map_append];rfl
theorem z09.lower {α:Type} {c:Cod α} {w:World} {base base' B:Nat} {e:TypeId} {v:Value} {l:List α} (h:z09 c w base' e v l B) (hb:base≤base'):z09 c w base e v l B:=by
 obtain ⟨xs,h1,h2,h3⟩:=h;exact ⟨xs,z7o h1 hb,h2,h3⟩
section
variable {P:Program} {α:Type} {c:Cod α}
theorem z5x {w:World} {ops:Array Oper} {o:Oper} {a:Act} {K:Act→World→Prop} {Q:Exit→Act→World→Prop} {E:Prop} (hgd:o.guard=none) (s x:Operand) (t:TypeId)
  (ho:o.op=.call { callee:=.builtin .append,args:=#[s,x],argTypes:=#[t,t] })
  (base:Nat) (e:TypeId) (i:TypeInfo) (z:Value) (bytes:Nat) (ht:P.underlying t=some (.slice e)) (hi:P.info? e=some i) (hz:i.zero=some z) (hsize:i.size=c.size) (hby:i.bytes=bytes) (hzs:z.cells.size=c.size) (hc:0 < c.size)
  (v:Value) (l:List α) (hs:a.eval s=v) (hown:y1e c w base e v l) (A:Option Addr) (k n2:Nat) (l2:List α) (hn2:n2=l2.length) (hx:a.eval x=.slice A n2 k) (hr:RdS c w (fun b=>b < base) A l2)
  (hone:∀ (ys:List Value) (x:α),c.rd w (fun b=>b < base) ys x→∀ u∈ys,u.oneCell' = true) (hlen:l.length+l2.length≤100000) (hbl:bytes≤1000)
  (h:∀ v' w',y1e c w' base e v' (l++l2)→Below base w w'→K (a.put o.dst v') w'):if Region.wanted o (yielded ops a.tmps)=true then Oper.wp P o a w K Q else E:=by
 have hw:Region.wanted o (yielded ops a.tmps)=true:=by simp[Region.wanted,hgd]
 rw[if_pos hw];subst hn2;obtain ⟨xs,h1,h2,hbase⟩:=hown
 cases A with
 | none=>
  have hl2:l2=[]:=by
   cases l2 with
   | nil=>rfl
   | cons y r=>obtain ⟨b,off,h3,_⟩:=hr (by simp);cases h3
  subst hl2;have hrun:=z7a (P:=P) w base t o.type e i c.size ht hi v l.length xs h1 k;unfold Oper.wp execOp;simp only[List.length_nil] at hx;simp only[ho,resolve,invoke,builtin,Sem.run_bind,Sem.run_pure,Result.andThen_ok,List.map_toArray,List.map_cons,List.map_nil,hs,hx,hrun]
  exact h v w (by rw[List.append_nil];exact ⟨xs,h1,h2,hbase⟩) bQ
 | some ad=>
  obtain ⟨news,h3,h4⟩:∃ news,RdC c w (fun b=>b < base) news l2∧∀ (j:Nat) (u:Value),news[j]? = some u→w.cell? (ad.add j)=some u:=by
   cases l2 with
   | nil=>exact ⟨[],rfl,fun j u hu=>by simp at hu⟩
   | cons y r=>
    obtain ⟨b,off,h5,_⟩:=hr (by simp);simp only[qE] at h5;subst h5;obtain ⟨news,h6,h7⟩:=hr.cells;refine ⟨news,h6,fun j u hu=>?_⟩;have:(⟨b,off,none⟩:Addr).add j=⟨b,off+j,none⟩:=by
     unfold Addr.add;split
     ·rename_i h0;subst h0;rfl
     ·rfl
    rw[this];exact h7 j u hu
  obtain ⟨v',w',hrun,h5,h6,_⟩:=x1h (P:=P) w base t o.type e i z c.size bytes ht hi hz hsize hby hzs hc v l.length xs h1 ad l2.length k news h3.len h4 (h3.one hone)
   (by unfold maxLen;omega) (nR (Nat.mul_le_mul (show l.length+l2.length≤1000000 by omega) hbl) (by omega)) hbase
  have hf:=y2g h1 h6;have hb:Below base w w':=⟨hf.os,hf.tape,hf.output,hf.size,fun k hk=>hf.low k hk (by omega)⟩
  unfold Oper.wp execOp;simp only[ho,resolve,invoke,builtin,Sem.run_bind,Sem.run_pure,Result.andThen_ok,List.map_toArray,List.map_cons,List.map_nil,hs,hx,hrun];refine h v' w' ⟨xs++news,by rw[qL];exact h5,?_,nR hbase hf.size⟩ hb;exact (h2.app h3).keep fun p hp=>z0k (hb.block _ hp)
end
theorem z4p {α:Type} {p:α→Bool} {l:List α} {k:Nat} (hk:k < l.length) (h:p l[k]=false):l.all p=false:=by
 rw[Bool.eq_false_iff];intro ha;rw[laT] at ha;have:=ha _ (uE hk);rw[h] at this;cases this
theorem z4a {α:Type} {p:α→Bool} {l:List α} {k:Nat} (hk:k < l.length) (h:(l.take k).all p=true) (h2:p l[k]=true):(l.take (k+1)).all p=true:=by
 rw[tqS hk,List.all_append,h];simp[h2]
theorem z7d {α:Type} {p:α→Bool} {l:List α} {k:Nat} (hk:¬k < l.length) (h:(l.take k).all p=true):l.all p=true:=by rwa [tlL (by omega)] at h
theorem RdS.low {α:Type} {c:Cod α} {w w':World} {g:Nat} {A:Option Addr} {l:List α} (h:RdS c w (fun k=>k < g) A l) (hb:Below g w w'):RdS c w' (fun k=>k < g) A l:=h.keep fun _ hp=>hb.cell hp
theorem RdS.take {α:Type} {c:Cod α} {w:World} {S:Nat→Prop} {A:Option Addr} {l:List α} (h:RdS c w S A l) (k:Nat):RdS c w S A (l.take k):=by
 intro hl;obtain ⟨b,off,h1,h2,h3⟩:=h (by rw[lTk] at hl;omega);exact ⟨b,off,h1,h2,fun i x hx=>h3 i x (by
  rw[List.getElem?_take] at hx;split at hx
  ·exact hx
  ·cases hx)⟩
end Go.Proofs.YtpenlfedkacglaaGreatDoor
namespace Go.Proofs.YtpenlfedkacglaaGreatDoor
open Go.RowKit
theorem y5v {w:World} {base:Nat} {e:TypeId} {size n:Nat} {v:Value} {xs:List Value} (h:w.ownsRow base e size v n xs):∀ b,v.ownBlock=some b→base≤b:=by
 intro b hb;rcases h.2 with ⟨rfl,_⟩ | ⟨g,cap,cur,rfl,h1,_⟩
 ·cases hb
 ·exact (sJ hb)▸h1
theorem z6z {P:Program} (w:World) (base:Nat) (t ty e:TypeId) (i:TypeInfo) (z:Value) (size bytes:Nat) (ht:P.underlying t=some (.slice e)) (hi:P.info? e=some i) (hz:i.zero=some z)
  (hsize:i.size=size) (hby:i.bytes=bytes) (hzs:z.cells.size=size) (hsz:0 < size) (v:Value) (n:Nat) (xs:List Value) (hown:w.ownsRow base e size v n xs)
  (a:Addr) (m c:Nat) (news:List Value) (hl:news.length=m*size) (hnews:∀ j u,news[j]? = some u→w.cell? (a.add j)=some u) (h1:∀ u∈news,u.oneCell' = true)
  (h63:n+m≤maxLen) (hbytes:(n+m)*bytes≤140737488355328) (hbase:base≤w.heap.size) :
  ∃ v' w',(Builtin.append_ #[t,t] ty #[v,.slice (some a) m c]).run P w=.ok v' w'∧w'.ownsRow base e size v' (n+m) (xs++news)∧w.grownBy w' v.ownBlock∧∀ b,v'.ownBlock=some b→v.ownBlock=some b∨w.heap.size≤b:=by
 have hw:=hown;rcases hown.2 with ⟨rfl,h0⟩ | ⟨g,cap,cur,rfl,hbg,hg,hnc,hcm,hcs,htake⟩
 ·obtain ⟨v',w',h2,h3,h4,_⟩:=run_append_own (P:=P) w w.heap.size t ty e i z size bytes ht hi hz hsize hby hzs hsz _ n xs ⟨hw.1,Or.inl ⟨rfl,h0⟩⟩ a m c news hl hnews h1 h63 hbytes nL;exact ⟨v',w',h2,z7o h3 hbase,h4,fun b hb=>Or.inr (y5v h3 b hb)⟩
 ·by_cases hfit:n+m≤cap
  ·obtain ⟨w',h2,h3,h4⟩:=run_append_fits (P:=P) w base t ty e i size ht hi hsize g n cap xs hw a m c news hl hnews h1 hfit;exact ⟨_,w',h2,h3,h4,fun b hb=>Or.inl hb⟩
  ·obtain ⟨v',w',h2,h3,h4⟩:=run_append_arg_grows (P:=P) w t ty e i z size bytes ht hi hz hsize hby hzs hsz ⟨g,0,none⟩ n cap xs (by simpa using hw.1) (fun j u hj=>by
    have hjl:=(List.getElem?_eq_some_iff.1 hj).1;have hxl:xs.length=n*size:=by simpa using hw.1
    rw[z0g,World.ownsRow.cellAt hw j (by omega),hj]) a m c news hl hnews (by omega) h63 hbytes
   exact ⟨v',w',h2,z7o h3 hbase,⟨h4.os,h4.tape,h4.output,h4.size,fun k hk _=>h4.block k hk (by simp)⟩,fun b hb=>Or.inr (y5v h3 b hb)⟩
section
variable {P:Program} {α:Type} {c:Cod α}
structure x2b (c:Cod α) (w w':World) (base:Nat) (e:TypeId) (v v':Value) (l:List α):Prop where
 own:z09 c w' base e v' l w'.heap.size
 frm:Frm base e w w'
 grow:w.grownBy w' v.ownBlock
 blk:∀ b,v'.ownBlock=some b→v.ownBlock=some b∨w.heap.size≤b
theorem z8t (w:World) (base:Nat) (t ty e:TypeId) (i:TypeInfo) (z:Value) (bytes:Nat) (ht:P.underlying t=some (.slice e)) (hi:P.info? e=some i) (hz:i.zero=some z) (hsize:i.size=c.size) (hby:i.bytes=bytes) (hzs:z.cells.size=c.size) (hc:0 < c.size)
  (v:Value) (l:List α) (B:Nat) (hown:z09 c w base e v l B) (ys:List Value) (y:α) (hy:c.rd w (Sep w e w.heap.size) ys y) (h1:∀ u∈ys,u.oneCell' = true) (ad:Addr) (k:Nat)
  (hcell:∀ j u,ys[j]? = some u→w.cell? (ad.add j)=some u) (hlen:l.length≤100000) (hbl:bytes≤1000) (hbase:base≤w.heap.size) :
  ∃ v' w',(Builtin.append_ #[t,t] ty #[v,.slice (some ad) 1 k]).run P w=.ok v' w'∧x2b c w w' base e v v' (l++[y]):=by
 have hyl:=c.len hy;obtain ⟨xs,hown,hrd,hB⟩:=hown.raise (by obtain ⟨_,_,_,h⟩:=hown;exact h) nL;obtain ⟨v',w',hrun,h2,h3,h4⟩:=z6z (P:=P) w base t ty e i z c.size bytes ht hi hz hsize hby hzs hc v l.length xs hown ad 1 k ys (by omega) hcell h1
  (by unfold maxLen;omega) (nR (Nat.mul_le_mul (show l.length+1≤1000000 by omega) hbl) (by omega)) hbase
 have hf:=y2g hown h3;have hs':∀ b,Sep w e w.heap.size b→w'.heap[b]? = w.heap[b]?:=fun b hb=>by
  have hlt:b < w.heap.size:=hb.1;have ho:w.heap[b]? = some w.heap[b]:=agE hlt;rw[hf.obj b _ ho fun cs fr hx=>hb.2 cs fr (by rw[ho,hx]),ho]
 have key:RdC c w (Sep w e w.heap.size) (xs++ys) (l++[y]):=hrd.snoc hy;exact ⟨v',w',hrun,⟨xs++ys,by rw[qL];exact h2,(key.keep fun p hp=>z0k (hs' _ hp)).more fun b hb=>⟨nT hb.1 hf.size,fun cs fr hx=>hb.2 cs fr (by rw[←hs' b hb];exact hx)⟩,nL⟩,hf,h3,h4⟩
theorem z0m (w:World) {ops:Array Oper} {rest:List Oper} {o:Oper} {a:Act} {Q:Exit→Act→World→Prop} (hgd:o.guard=none) (s x:Operand) (t:TypeId)
  (ho:o.op=.call { callee:=.builtin .append,args:=#[s,x],argTypes:=#[t,t] })
  (base:Nat) (e:TypeId) (i:TypeInfo) (z:Value) (bytes:Nat) (ht:P.underlying t=some (.slice e)) (hi:P.info? e=some i) (hz:i.zero=some z) (hsize:i.size=c.size) (hby:i.bytes=bytes) (hzs:z.cells.size=c.size) (hc:0 < c.size)
  (v:Value) (l:List α) (B:Nat) (hs:a.eval s=v) (hown:z09 c w base e v l B) (ys:List Value) (y:α) (hy:c.rd w (Sep w e w.heap.size) ys y) (h1:∀ u∈ys,u.oneCell' = true) (ad:Addr) (k:Nat)
  (hx:a.eval x=.slice (some ad) 1 k) (hcell:∀ j u,ys[j]? = some u→w.cell? (ad.add j)=some u) (hlen:l.length≤100000) (hbl:bytes≤1000) (hbase:base≤w.heap.size)
  (h:∀ v' w',x2b c w w' base e v v' (l++[y])→wpList P ops Q rest (a.put o.dst v') w'):wpList P ops Q (o::rest) a w:=by
 refine wpList_plain hgd fun K hK=>?_
 obtain ⟨v',w',hrun,hq⟩:=z8t (P:=P) (c:=c) w base t o.type e i z bytes ht hi hz hsize hby hzs hc v l B hown ys y hy h1 ad k hcell hlen hbl hbase;unfold Oper.wp execOp;simp only[ho,resolve,invoke,builtin,Sem.run_bind,Sem.run_pure,Result.andThen_ok,List.map_toArray,List.map_cons,List.map_nil,hs,hx,hrun];exact hK _ _ (h v' w' hq)
theorem z5h {w:World} {ops:Array Oper} {o:Oper} {a:Act} {K:Act→World→Prop} {Q:Exit→Act→World→Prop} {E:Prop} (hgd:o.guard=none) (s x:Operand) (t:TypeId)
  (ho:o.op=.call { callee:=.builtin .append,args:=#[s,x],argTypes:=#[t,t] })
  (base:Nat) (e:TypeId) (i:TypeInfo) (z:Value) (bytes:Nat) (ht:P.underlying t=some (.slice e)) (hi:P.info? e=some i) (hz:i.zero=some z) (hsize:i.size=c.size) (hby:i.bytes=bytes) (hzs:z.cells.size=c.size) (hc:0 < c.size)
  (v:Value) (l:List α) (B:Nat) (hs:a.eval s=v) (hown:z09 c w base e v l B) (ys:List Value) (y:α) (hy:c.rd w (Sep w e w.heap.size) ys y) (h1:∀ u∈ys,u.oneCell' = true) (ad:Addr) (k:Nat)
  (hx:a.eval x=.slice (some ad) 1 k) (hcell:∀ j u,ys[j]? = some u→w.cell? (ad.add j)=some u) (hlen:l.length≤100000) (hbl:bytes≤1000) (hbase:base≤w.heap.size)
  (h:∀ v' w',x2b c w w' base e v v' (l++[y])→K (a.put o.dst v') w'):if Region.wanted o (yielded ops a.tmps)=true then Oper.wp P o a w K Q else E:=by
 have hw:Region.wanted o (yielded ops a.tmps)=true:=by simp[Region.wanted,hgd]
 rw[if_pos hw];obtain ⟨v',w',hrun,hq⟩:=z8t (P:=P) (c:=c) w base t o.type e i z bytes ht hi hz hsize hby hzs hc v l B hown ys y hy h1 ad k hcell hlen hbl hbase;unfold Oper.wp execOp;simp only[ho,resolve,invoke,builtin,Sem.run_bind,Sem.run_pure,Result.andThen_ok,List.map_toArray,List.map_cons,List.map_nil,hs,hx,hrun];exact h v' w' hq
end
section
variable {α β:Type} {c:Cod α} {d:Cod β} {w w':World} {base base2:Nat} {e e2:TypeId} {v v' u:Value} {l l':List α} {m:List β}
theorem x2b.other (h:x2b c w w' base e v v' l') {g:Nat} (hg:g < w.heap.size) (hne:v.ownBlock≠some g):w'.heap[g]? = w.heap[g]?:=h.grow.block g hg (by intro he;exact hne he.symm)
theorem z09.apart (h:z09 d w base2 e2 u m 0) (hq:x2b c w w' base e v v' l') (hne:∀ b,u.ownBlock=some b→v.ownBlock≠some b):z09 d w' base2 e2 u m 0:=by
 obtain ⟨xs,h1,h2,_⟩:=h;refine ⟨xs,⟨h1.1,?_⟩,(h2.keep fun p hp=>absurd hp.1 (Nat.not_lt_zero _)).more fun b hb=>absurd hb.1 (Nat.not_lt_zero _),nZ⟩;rcases h1.2 with h | ⟨g,cap,cur,rfl,h3,h4,h5⟩
 ·exact Or.inl h
 ·exact Or.inr ⟨g,cap,cur,rfl,h3,(hq.other (z0j h4) (hne g rfl)).trans h4,h5⟩
end
open Go.RowKit
section
variable {α:Type} {c:Cod α} {w w':World} {S:Nat→Prop}
variable {base:Nat} {e:TypeId} {v:Value} {l:List α}
end
section
variable {P:Program} {α:Type} {c:Cod α}
end
section
variable {w:World} {S:Nat→Prop} {ys:List Value} {r:Rou} {A:Option Addr} {cap:Nat}
end
end Go.Proofs.YtpenlfedkacglaaGreatDoor
namespace Go.Proofs.YtpenlfedkacglaaGreatDoor
open Go.RowKit
section
variable {P:Program} {ops:Array Oper} {Q:Exit→Act→World→Prop} {md:Region.Mode}
def cntF (l:Array Bool):Nat:=l.toList.count false
theorem z9e {l:Array Bool} {i:Nat} (h:l[i]? = some false):cntF (l.setIfInBounds i true)+1=cntF l:=by
 have hi:i < l.size:=(Array.getElem?_eq_some_iff.1 h).1;have hv:l.toList[i]'(by simpa using hi)=false:=by
  have:=(Array.getElem?_eq_some_iff.1 h).2;simpa using this
 unfold cntF;rw[Array.toList_setIfInBounds,List.count_set (by simpa using hi),hv];have hpos:0 < l.toList.count false:=List.count_pos_iff.2 (hv▸uE _);rw[if_pos (by decide),if_neg (by decide)];omega
theorem y01 {l:Array Bool} (h:cntF l=0) {i:Nat} (hi:l[i]? = some false):False:=by
 have:=z9e hi;omega
def Down (ops:Array Oper):Bool:=(List.range ops.size).all fun i=>((ops[i]?).map fun o=>o.after.all fun e=>!Region.binds .any e || decide (e.on < i)).getD true
theorem z9f (hd:Down ops=true) {listed:Array Bool} (hs:listed.size=ops.size) (hr:Region.ready .any ops listed=[]):∀ i,i < ops.size→listed[i]? = some true:=by
 intro i
 induction i using Nat.strongRecOn with
 | _ i ih=>
  intro hi;have hli:i < listed.size:=by omega
  rw[agE hli]
  cases hv:listed[i] with
  | true=>rfl
  | false=>
   exfalso;have hmem:i∈Region.ready .any ops listed:=by
    unfold Region.ready;refine List.mem_filter.2 ⟨List.mem_range.2 hi,?_⟩;have h1:listed.getD i true=false:=by simp[Array.getD,hli,hv]
    rw[h1,agE hi];simp only[Bool.not_false,Bool.true_and,Option.map_some,Option.getD_some];rw[Array.all_eq_true_iff_forall_mem];intro e he;have h2:=List.all_eq_true.1 hd i (List.mem_range.2 hi);rw[agE hi] at h2;simp only[Option.map_some,Option.getD_some] at h2;rw[Array.all_eq_true_iff_forall_mem] at h2
    cases hbe:Region.binds .any e with
    | false=>rfl
    | true=>
     have h3:e.on < i:=by simpa [hbe] using h2 e he
     have h4:=ih e.on h3 (by omega);have h5:listed.getD e.on false=true:=by
      have hlt:e.on < listed.size:=by omega
      rw[agE hlt] at h4;simp[Array.getD,hlt,sJ h4]
     rw[h5];rfl
   rw[hr] at hmem;cases hmem
theorem z6i {listed:Array Bool} {i:Nat} (h:i∈Region.ready md ops listed):i < ops.size∧listed.getD i true=false∧∀ o,ops[i]? = some o→∀ e∈o.after,Region.binds md e=true→listed.getD e.on false=true:=by
 unfold Region.ready at h;obtain ⟨h1,h2⟩:=List.mem_filter.1 h;have hi:=List.mem_range.1 h1;rw[agE hi] at h2;simp only[Option.map_some,Option.getD_some,uT,Bool.not_eq_true'] at h2;refine ⟨hi,h2.1,fun o ho e he hb=>?_⟩;rw[agE hi] at ho;cases ho;have h3:=h2.2;rw[Array.all_eq_true_iff_forall_mem] at h3;have h4:=h3 e he;rw[hb] at h4;simpa using h4
theorem x62 (hd:Down ops=true) (I:Array Bool→Act→World→Prop) (hsz:∀ listed a w,I listed a w→listed.size=ops.size)
  (hstep:∀ listed a w i,I listed a w→i < ops.size→listed[i]? = some false→(∀ o,ops[i]? = some o→∀ e∈o.after,Region.binds .any e=true→listed[e.on]? = some true)→wpOp P ops Q i (fun a' w'=>I (listed.setIfInBounds i true) a' w') a w)
  (hend:∀ listed a w,I listed a w→(∀ i,i < ops.size→listed[i]? = some true)→Q .normal a w) :
  ∀ (fuel:Nat) (listed:Array Bool) (a:Act) (w:World),I listed a w→cntF listed≤fuel→wpAny P .any ops Q fuel listed a w:=by
 have hf:∀ {listed:Array Bool} {i:Nat},listed.getD i true=false→listed[i]? = some false:=by
  intro listed i h;unfold Array.getD at h;split at h
  ·rename_i hi;rw[agE hi];exact congrArg some h
  ·cases h
 have ht:∀ {listed:Array Bool} {i:Nat},listed.getD i false=true→listed[i]? = some true:=by
  intro listed i h;unfold Array.getD at h;split at h
  ·rename_i hi;rw[agE hi];exact congrArg some h
  ·cases h
 intro fuel
 induction fuel with
 | zero=>
  intro listed a w hI hc;have hr:Region.ready .any ops listed=[]:=by
   rw[List.eq_nil_iff_forall_not_mem];intro i hi;exact y01 (Nat.le_zero.1 hc) (hf (z6i hi).2.1)
  exact ⟨hr,hend listed a w hI (z9f hd (hsz _ _ _ hI) hr)⟩
 | succ fuel ih=>
  intro listed a w hI hc;refine ⟨fun hr=>hend listed a w hI (z9f hd (hsz _ _ _ hI) hr),fun i hi=>?_⟩;obtain ⟨h1,h2,h3⟩:=z6i hi;refine wpOp_mono (fun a' w' h=>ih _ a' w' h ?_) (hstep listed a w i hI h1 (hf h2) fun o ho e he hb=>ht (h3 o ho e he hb));have:=z9e (hf h2);omega
theorem y4o {id:Nat} {a:Act} {w:World} (hm:P.follows .mixedOrders=true) (hd:Down ops=true) (I:Array Bool→Act→World→Prop) (h0:I (Array.replicate ops.size false) a w.drew) (hsz:∀ listed a w,I listed a w→listed.size=ops.size)
  (hstep:∀ listed a w i,I listed a w→i < ops.size→listed[i]? = some false→(∀ o,ops[i]? = some o→∀ e∈o.after,Region.binds .any e=true→listed[e.on]? = some true)→wpOp P ops Q i (fun a' w'=>I (listed.setIfInBounds i true) a' w') a w)
  (hend:∀ listed a w,I listed a w→(∀ i,i < ops.size→listed[i]? = some true)→Q .normal a w):(Code.region id ops true).wp P Q a w:=
 wp_region_any hm (x62 hd I hsz hstep hend _ _ _ _ h0 (by unfold cntF;simp))
theorem z4r {i:Nat} {o:Oper} {a:Act} {w:World} {K:Act→World→Prop} (ho:ops[i]? = some o) (h:if Region.wanted o (yielded ops a.tmps)=true then Oper.wp P o a w K Q else K (a.put o.dst undef) w):wpOp P ops Q i K a w:=by
 unfold wpOp;rw[ho];simp only;split
 ·rename_i hw;rw[if_pos hw] at h;exact Or.inl h
 ·rename_i hw;rw[if_neg hw] at h;exact h
theorem z9r (a:Act) (d:Nat) (v:Value) (h:d < a.tmps.size):(a.put (some d) v).eval (.tmp d)=v:=by
 simp[Act.put,Act.eval,h]
theorem z3i (a:Act) (d:Nat) (v:Value) (x:Nat) (h:d≠x):(a.put (some d) v).eval (.tmp x)=a.eval (.tmp x):=by
 simp[Act.put,Act.eval,h]
theorem z7p (a:Act) (d:Option Nat) (v:Value):(a.put d v).tmps.size=a.tmps.size:=by cases d <;> simp[Act.put]
end
theorem z06 (a:Act) (n:Nat):a.eval (.tmp n)=a.tmps[n]?.getD undef:=by simp[Act.eval]
theorem z0w {ops:Array Oper} {listed:Array Bool} {i:Nat} (hd:∀ o,ops[i]? = some o→∀ e∈o.after,Region.binds .any e=true→listed[e.on]? = some true) {o:Oper} (ho:ops[i]? = some o) (j:Nat) {e:Edge} (he:o.after[j]? = some e) (hb:Region.binds .any e=true):listed[e.on]? = some true:=hd o ho e (Array.mem_of_getElem? he) hb
theorem j9v {ops:Array Oper} {a:Act} {j d:Nat} {o:Oper} (ho:ops[j]? = some o) (hd:o.dst=some d) {b:Bool} (he:a.eval (.tmp d)=.bool b):yielded ops a.tmps j=some b:=by
 unfold yielded;rw[ho,Option.bind_some,hd,Option.bind_some];rw[z06] at he
 cases hx:a.tmps[d]? with
 | none=>rw[hx] at he;cases he
 | some y=>rw[hx] at he;simp only[Option.getD_some] at he;subst he;rfl
theorem x8l {α:Type} (z:α) (l:List α) {n:Nat} (h:l.length=n):l=(List.range n).map fun i=>l[i]?.getD z:=by
 subst h;apply List.ext_getElem
 ·simp
 ·intro i h1 h2;simp[h1]
theorem j8g {α:Type} (z:α) (a:Array α) {n:Nat} (h:a.size=n) {m:List α} (hm:((List.range n).map fun i=>a[i]?.getD z)=m):a=m.toArray:=by
 have:=x8l z a.toList (n:=n) (by simpa using h);rw[←hm];apply Array.toList_inj.1;simpa using this
theorem z0c {w:World} {g:Nat} {T:TypeId} {cs:Array Value} (h:Blk w g T cs) (n:Nat) (hn:cs.size=n):Sem.run Tryz.prog (loadCellsFrom ⟨g,0,none⟩ 0 n #[]) w=.ok cs w:=by
 have:=run_loadCellsFrom_list Tryz.prog w ⟨g,0,none⟩ cs.toList n (by simpa using hn) (fun i v hi=>by
  rw[Addr.add_lit,Nat.zero_add,h.cell];simpa using hi)
 simpa using this
theorem z2y {w:World} {b o n:Nat} {ys:List Value} (hn:ys.length=n) (h:∀ (j:Nat) (u:Value),ys[j]? = some u→w.cell? ⟨b,o+j,none⟩=some u):Sem.run Tryz.prog (loadCellsFrom ⟨b,o,none⟩ 0 n #[]) w=.ok ys.toArray w:=
 run_loadCellsFrom_list Tryz.prog w ⟨b,o,none⟩ ys n hn (fun i v hi=>by rw[Addr.add_lit];exact h i v hi)
theorem z2h {w:World} {g:Nat} {T:TypeId} {cs:Array Value} (h:Blk w g T cs) (o n:Nat) (ys:List Value) (hn:ys.length=n) (hy:(cs.toList.drop o).take n=ys):Sem.run Tryz.prog (loadCellsFrom ⟨g,o,none⟩ 0 n #[]) w=.ok ys.toArray w:=
 z2y hn (fun j u hj=>by
  rw[h.cell];have hl:=(List.getElem?_eq_some_iff.1 hj).1;rw[←hy,List.getElem?_take_of_lt (by omega),List.getElem?_drop] at hj;simpa using hj)
theorem z3v {w:World} {g:Nat} {T:TypeId} {cs:Array Value} (vs:Array Value) (h:Blk w g T cs):Blk (w.setRow g vs) g T vs∧Below g w (w.setRow g vs):=
 ⟨setRow_heap w g cs vs T (0,0) h,⟨rfl,rfl,rfl,by simp,fun k h1=>setRow_other w g k vs (by omega)⟩⟩
theorem z1b {P:Program} {w:World} {ops:Array Oper} {o:Oper} {a:Act} {K:Act→World→Prop} {Q:Exit→Act→World→Prop} {E:Prop} (hgd:o.guard=none) (ty:TypeId) (x y:Operand) (ho:o.op=.store ty x y)
  (g:Nat) (cells:Array Value) (hx:a.eval x=.pointer (some ⟨g,0,none⟩)) (hy:a.eval y=.agg cells)
  (t:TypeId) (old:Array Value) (hg:Blk w g t old) (hi:(P.info? ty).map (·.size)=some cells.size)
  (hold:old.size=cells.size) (h1:cells.all (·.oneCell')=true)
  (h:K (a.put o.dst undef) (w.setRow g cells)):if Region.wanted o (yielded ops a.tmps)=true then Oper.wp P o a w K Q else E:=by
 have hw:Region.wanted o (yielded ops a.tmps)=true:=by simp[Region.wanted,hgd]
 rw[if_pos hw];exact wp_store_row ty x y ho g cells hx hy t old hg hi hold h1 h
section
variable {P:Program} {ops:Array Oper} {Q:Exit→Act→World→Prop} {md:Region.Mode}
theorem z7w {fuel:Nat} {listed:Array Bool} {a:Act} {w:World} (hr:Region.ready md ops listed=[]) (h:Q .normal a w):wpAny P md ops Q fuel listed a w:=by
 cases fuel with
 | zero=>exact ⟨hr,h⟩
 | succ n=>exact ⟨fun _=>h,fun i hi=>by rw[hr] at hi;cases hi⟩
theorem z6m {fuel i:Nat} {listed:Array Bool} {a:Act} {w:World} (hr:Region.ready md ops listed=[i]) (h:wpOp P ops Q i (fun a' w'=>wpAny P md ops Q fuel (listed.setIfInBounds i true) a' w') a w):wpAny P md ops Q (fuel+1) listed a w:=
 ⟨fun h0=>absurd (hr.symm.trans h0) (by simp),fun j hj=>by
  rw[hr,List.mem_singleton] at hj;subst hj;exact h⟩
def z7i (ops:Array Oper) (i:Nat):Nat:=((ops[i]?).bind (·.dst)).getD 0
structure IvG (ops:Array Oper) (n1:Nat) (a0:Act) (W:World) (Pr:Nat→Value→World→Prop) (listed:Array Bool) (a:Act) (w:World):Prop where
 sz:listed.size=ops.size
 ts:a.tmps.size=a0.tmps.size
 df:a.defers=a0.defers
 keep:∀ s,s∉(List.range n1).map (z7i ops)→a.eval (.tmp s)=a0.eval (.tmp s)
 bel:Below W.heap.size W w
 late:∀ j,n1≤j→listed[j]?≠some true
 at_:∀ j,j < n1→listed[j]? = some true→Pr j (a.eval (.tmp (z7i ops j))) w
def Shape (ops:Array Oper) (n1 m:Nat):Bool:=
 Down ops && (decide (n1≤ops.size) && ((List.range n1).all (fun i=>((ops[i]?).map fun o=>o.dst.isSome).getD false) && (((List.range n1).map (z7i ops)).all (fun d=>decide (d < m)) && (decide ((List.range n1).map (z7i ops)).Nodup &&
  (List.range ops.size).all fun i=>decide (i < n1) || (List.range n1).all fun j=>((ops[i]?).map fun o=>o.after.any fun e=>e.on==j && Region.binds .any e).getD false))))
def y7k (n1 n:Nat):Array Bool:=(List.replicate n1 true++List.replicate (n - n1) false).toArray
theorem y8x (n1 n:Nat):cntF (y7k n1 n)=n - n1:=by
 unfold cntF y7k;simp[List.count_append,List.count_replicate]
theorem j1g {n1 m:Nat} {f:Nat→Nat} (h:((List.range n1).map f).Nodup) {i j:Nat} (hi:i < n1) (hj:j < n1) (he:f i=f j):i=j:=by
 have hp:=List.pairwise_iff_getElem.1 h;rcases Nat.lt_trichotomy i j with q | q | q
 ·have:=hp i j (by simpa using hi) (by simpa using hj) q;simp only[List.getElem_map,List.getElem_range] at this;exact absurd he this
 ·exact q
 ·have:=hp j i (by simpa using hj) (by simpa using hi) q;simp only[List.getElem_map,List.getElem_range] at this;exact absurd he.symm this
theorem x2i {α:Type} {a:Array α} {f:α→Bool} (h:a.any f=true):∃ x∈a,f x=true:=by
 rw[←Array.any_toList,List.any_eq_true] at h;obtain ⟨x,hx,hf⟩:=h;exact ⟨x,by simpa using hx,hf⟩
theorem x1t {n1:Nat} {a0:Act} {W:World} (hsh:Shape ops n1 a0.tmps.size=true) (Pr:Nat→Value→World→Prop) (hst:∀ j y w w',Pr j y w→Below w.heap.size w w'→Pr j y w')
  (hstep:∀ i,i < n1→∀ a w,a.tmps.size=a0.tmps.size→a.defers=a0.defers→(∀ s,s∉(List.range n1).map (z7i ops)→a.eval (.tmp s)=a0.eval (.tmp s))→Below W.heap.size W w→(∀ o,ops[i]? = some o→∀ e∈o.after,Region.binds .any e=true→Pr e.on (a.eval (.tmp (z7i ops e.on))) w)→
   wpOp P ops Q i (fun a' w'=>∃ y,a' = a.put (some (z7i ops i)) y∧Below w.heap.size w w'∧Pr i y w') a w)
  (hend:∀ a w,a.tmps.size=a0.tmps.size→a.defers=a0.defers→(∀ s,s∉(List.range n1).map (z7i ops)→a.eval (.tmp s)=a0.eval (.tmp s))→Below W.heap.size W w→(∀ j,j < n1→Pr j (a.eval (.tmp (z7i ops j))) w)→wpAny P .any ops Q (ops.size - n1) (y7k n1 ops.size) a w) :
  ∀ (fuel:Nat) (listed:Array Bool) (a:Act) (w:World),IvG ops n1 a0 W Pr listed a w→cntF listed=fuel→wpAny P .any ops Q fuel listed a w:=by
 simp only[Shape,uT,dET] at hsh;obtain ⟨hd,hn,hso,hlt,hnd,hph⟩:=hsh;have hltA:∀ j,j < n1→z7i ops j < a0.tmps.size:=fun j hj=>by
  have:=List.all_eq_true.1 hlt (z7i ops j) (List.mem_map.2 ⟨j,List.mem_range.2 hj,rfl⟩);simpa using this
 have hf:∀ {listed:Array Bool} {i:Nat},listed.getD i true=false→listed[i]? = some false:=by
  intro listed i h;unfold Array.getD at h;split at h
  ·rename_i hi;rw[agE hi];exact congrArg some h
  ·cases h
 have ht:∀ {listed:Array Bool} {i:Nat},listed.getD i false=true→listed[i]? = some true:=by
  intro listed i h;unfold Array.getD at h;split at h
  ·rename_i hi;rw[agE hi];exact congrArg some h
  ·cases h
 have full:∀ (fuel:Nat) (listed:Array Bool) (a:Act) (w:World),IvG ops n1 a0 W Pr listed a w→cntF listed=fuel→(∀ j,j < n1→listed[j]? = some true)→wpAny P .any ops Q fuel listed a w:=by
  intro fuel listed a w hI hc hall;have hl:listed=y7k n1 ops.size:=by
   apply Array.ext
   ·unfold y7k;simp[hI.sz];omega
   ·intro j h1 h2;by_cases hj:j < n1
    ·have:=hall j hj;rw[agE h1] at this;rw[sJ this];unfold y7k;show true=(List.replicate n1 true++List.replicate (ops.size - n1) false)[j]'(by simp;omega);rw[List.getElem_append_left (by simpa using hj),List.getElem_replicate]
    ·have h3:=hI.late j (by omega);rw[agE h1] at h3;have h4:listed[j]=false:=by
      cases hv:listed[j] with
      | false=>rfl
      | true=>rw[hv] at h3;exact absurd rfl h3
     rw[h4];unfold y7k;have h9:j < ops.size:=by rw[←hI.sz];exact h1
     show false=(List.replicate n1 true++List.replicate (ops.size - n1) false)[j]'(by simp;omega);rw[List.getElem_append_right (by simp;omega),List.getElem_replicate]
  subst hl;rw[y8x] at hc;subst hc;exact hend a w hI.ts hI.df hI.keep hI.bel fun j hj=>hI.at_ j hj (hall j hj)
 intro fuel
 induction fuel with
 | zero=>
  intro listed a w hI hc;refine full 0 listed a w hI hc fun j hj=>?_
  have hjl:j < listed.size:=by rw[hI.sz];omega
  cases hv:listed[j] with
  | true=>rw[agE hjl,hv]
  | false=>exact (y01 hc (i:=j) (by rw[agE hjl,hv])).elim
 | succ fuel ih=>
  intro listed a w hI hc;by_cases hall:∀ j,j < n1→listed[j]? = some true
  ·exact full _ listed a w hI hc hall
  refine ⟨fun hr=>?_,fun i hi=>?_⟩
  ·exact absurd (fun j hj=>z9f hd hI.sz hr j (by omega)) hall
  ·obtain ⟨h1,h2,h3⟩:=z6i hi;by_cases hin:i < n1
   ·refine wpOp_mono (fun a' w' h=>?_) (hstep i hin a w hI.ts hI.df hI.keep hI.bel fun o ho e he hb=>?_)
    ·obtain ⟨y,rfl,hb,hy⟩:=h;refine ih _ _ w' ⟨by rw[Array.size_setIfInBounds];exact hI.sz,by rw[z7p];exact hI.ts,hI.df,fun s hs=>?_,z00 hI.bel hI.bel.size hb,fun j hj=>?_,fun j hj hl=>?_⟩ ?_
     ·rw[z3i _ _ _ _ (fun e=>hs (by rw[←e];exact List.mem_map.2 ⟨i,List.mem_range.2 hin,rfl⟩))];exact hI.keep s hs
     ·rw[Array.getElem?_setIfInBounds_ne (by omega)];exact hI.late j hj
     ·by_cases e:i=j
      ·subst e;rw[z9r _ _ _ (by rw[hI.ts];exact hltA i hin)];exact hy
      ·rw[z3i _ _ _ _ (fun h=>e (j1g (m:=0) hnd hin hj h))];rw[Array.getElem?_setIfInBounds_ne e] at hl;exact hst _ _ _ _ (hI.at_ j hj hl) hb
     ·have:=z9e (hf h2);omega
    ·have hon:=ht (h3 o ho e he hb);have hel:e.on < n1:=by
      by_cases q:e.on < n1
      ·exact q
      ·exact absurd hon (hI.late _ (by omega))
     exact hI.at_ _ hel hon
   ·exfalso;apply hall;intro j hj;have h4:=List.all_eq_true.1 hph i (List.mem_range.2 h1);rw[agE h1] at h4;simp only[Bool.or_eq_true,dET,hin,false_or] at h4;have h5:=List.all_eq_true.1 h4 j (List.mem_range.2 hj);simp only[Option.map_some,Option.getD_some] at h5;obtain ⟨e,he,h6⟩:=x2i h5;simp only[uT,beq_iff_eq] at h6;obtain ⟨rfl,hb⟩:=h6;exact ht (h3 _ (agE h1) e he hb)
theorem y1t {id:Nat} {a0:Act} {W:World} (n1:Nat) (hm:P.follows .mixedOrders=true) (hsh:Shape ops n1 a0.tmps.size=true) (Pr:Nat→Value→World→Prop) (hst:∀ j y w w',Pr j y w→Below w.heap.size w w'→Pr j y w')
  (hstep:∀ i,i < n1→∀ a w,a.tmps.size=a0.tmps.size→a.defers=a0.defers→(∀ s,s∉(List.range n1).map (z7i ops)→a.eval (.tmp s)=a0.eval (.tmp s))→Below W.heap.size W w→(∀ o,ops[i]? = some o→∀ e∈o.after,Region.binds .any e=true→Pr e.on (a.eval (.tmp (z7i ops e.on))) w)→
   wpOp P ops Q i (fun a' w'=>∃ y,a' = a.put (some (z7i ops i)) y∧Below w.heap.size w w'∧Pr i y w') a w)
  (hend:∀ a w,a.tmps.size=a0.tmps.size→a.defers=a0.defers→(∀ s,s∉(List.range n1).map (z7i ops)→a.eval (.tmp s)=a0.eval (.tmp s))→Below W.heap.size W w→(∀ j,j < n1→Pr j (a.eval (.tmp (z7i ops j))) w)→wpAny P .any ops Q (ops.size - n1) (y7k n1 ops.size) a w) :
  (Code.region id ops true).wp P Q a0 W:=by
 refine wp_region_any hm (x1t hsh Pr hst hstep hend _ _ _ _ ⟨by simp,rfl,rfl,fun _ _=>rfl,bQ.drew,fun j _ hl=>?_,fun j _ hl=>?_⟩ (by unfold cntF;simp))
 ·rw[Array.getElem?_replicate] at hl;split at hl <;> cases hl
 ·rw[Array.getElem?_replicate] at hl;split at hl <;> cases hl
theorem z6a {id:Nat} {a0:Act} {W:World} (n1 n2 m:Nat) (L0:Array Bool) (hn:ops.size - n1=n2) (hL:y7k n1 ops.size=L0) (h0:a0.tmps.size=m) (hm:P.follows .mixedOrders=true) (hsh:Shape ops n1 m=true) (Pr:Nat→Value→World→Prop) (hst:∀ j y w w',Pr j y w→Below w.heap.size w w'→Pr j y w')
  (hstep:∀ i,i < n1→∀ a w,a.tmps.size=m→a.defers=a0.defers→(∀ s,s∉(List.range n1).map (z7i ops)→a.eval (.tmp s)=a0.eval (.tmp s))→Below W.heap.size W w→(∀ o,ops[i]? = some o→∀ e∈o.after,Region.binds .any e=true→Pr e.on (a.eval (.tmp (z7i ops e.on))) w)→
   wpOp P ops Q i (fun a' w'=>∃ y,a' = a.put (some (z7i ops i)) y∧Below w.heap.size w w'∧Pr i y w') a w)
  (hend:∀ a w,a.tmps.size=m→a.defers=a0.defers→(∀ s,s∉(List.range n1).map (z7i ops)→a.eval (.tmp s)=a0.eval (.tmp s))→Below W.heap.size W w→(∀ j,j < n1→Pr j (a.eval (.tmp (z7i ops j))) w)→wpAny P .any ops Q n2 L0 a w) :
  (Code.region id ops true).wp P Q a0 W:=by
 subst hn hL h0;exact y1t n1 hm hsh Pr hst hstep hend
theorem y52 {a:Act} {w:World} {i:Nat} {Pr:Nat→Value→World→Prop} (hd:∀ o,ops[i]? = some o→∀ e∈o.after,Region.binds .any e=true→Pr e.on (a.eval (.tmp (z7i ops e.on))) w) {o:Oper} (ho:ops[i]? = some o) (j:Nat) {e:Edge} (he:o.after[j]? = some e) (hb:Region.binds .any e=true) {d s:Nat} (h1:e.on=d) (h2:z7i ops d=s):Pr d (a.eval (.tmp s)) w:=by
 subst h1 h2;exact hd o ho e (Array.mem_of_getElem? he) hb
theorem x22 {a:Act} {w:World} {j d:Nat} {op:Op} {ty:TypeId} {ps:String} {af:Array Edge} {g:Option (Nat × Bool)} {Pr:Nat→Value→World→Prop} (ho:ops[j]? = some (.mk (some d) op ty ps af g)) (h:∀ K:Act→World→Prop,Hid (∀ y w',Below w.heap.size w w'→Pr j y w'→K (a.put (some d) y) w')→if Region.wanted (.mk (some d) op ty ps af g) (yielded ops a.tmps)=true then Oper.wp P (.mk (some d) op ty ps af g) a w K Q else K (a.put (some d) undef) w):wpOp P ops Q j (fun a' w'=>∃ y,a' = a.put (some (z7i ops j)) y∧Below w.heap.size w w'∧Pr j y w') a w:=
 z4r ho (h _ (hE fun y w' h1 h2=>⟨y,by unfold z7i;rw[ho];rfl,h1,h2⟩))
end
end Go.Proofs.YtpenlfedkacglaaGreatDoor
namespace Go.Proofs.YtpenlfedkacglaaGreatDoor
open Go.RowKit
attribute [local go_sem] z05 z07 z01 z02
attribute [-go_sem] run_equalIn_agg
theorem y9e {w:World} {base:Nat} {e:TypeId} {v:Value} {l:List Int} (h:z09 cI w base e v l 0) (hl:0 < l.length):∃ g c,v=.slice (some ⟨g,0,none⟩) l.length c∧l.length≤c:=by
 obtain ⟨A,c,rfl,h1,h2⟩:=h.y9l;obtain ⟨xs,h3,_⟩:=h;rcases h3.2 with ⟨h4,h5⟩ | ⟨g,cap,cur,h4,_⟩
 ·omega
 ·simp only[Value.slice.injEq] at h4;obtain ⟨rfl,_⟩:=h4;exact ⟨g,c,rfl,h1.2⟩
theorem y5w {w:World} {base:Nat} {e:TypeId} {g o n c:Nat} {l:List Int} (h:z09 cI w base e (.slice (some ⟨g,o,none⟩) n c) l 0) {i:Nat} (hi:i < l.length):w.cell? ⟨g,o+i,none⟩=some (.int .i64 l[i])∧z0p l[i]:=by
 obtain ⟨A,c2,h0,h1,h2⟩:=h.y9l;simp only[Value.slice.injEq] at h0;obtain ⟨rfl,_,_⟩:=h0;obtain ⟨b,off,h3,_,h4,h5⟩:=h2.elI hi;simp only[qE,Addr.mk.injEq,and_true] at h3;obtain ⟨rfl,rfl⟩:=h3;exact ⟨h5,h4⟩
def Flat {α:Type} (c:Cod α):Prop:=∀ (w w':World) (S S':Nat→Prop) (ys:List Value) (x:α),c.rd w S ys x→c.rd w' S' ys x
theorem z9y:Flat cI:=fun _ _ _ _ _ _ h=>h
theorem z4b:Flat z1h:=fun _ _ _ _ _ _ h=>h
theorem z9z:Flat z2x:=fun _ _ _ _ _ _ h=>h
theorem z9x:Flat y1z:=fun _ _ _ _ _ _ h=>h
section
variable {α:Type} {c:Cod α} {w:World}
theorem RdC.flat (hc:Flat c) {S S':Nat→Prop}:∀ {l:List α} {xs:List Value},RdC c w S xs l→RdC c w S' xs l
 | [],_,h=>h
 | _::_,_,⟨y,z,h1,h2,h3⟩=>⟨y,z,h1,hc _ _ _ _ _ _ h2,RdC.flat hc h3⟩
theorem z09.low (hc:Flat c) {base B:Nat} {e:TypeId} {v:Value} {l:List α} (h:z09 c w base e v l B):z09 c w base e v l 0:=by
 obtain ⟨xs,h1,h2,_⟩:=h;exact ⟨xs,h1,h2.flat hc,nZ⟩
end
theorem z0f {w:World} {g:Nat} {t:TypeId} {ys:List Value} (h:Blk w g t ys.toArray):∀ (j:Nat) (u:Value),ys[j]? = some u→w.cell? ⟨g,j,none⟩=some u:=fun j u hj=>(h.cell j).trans (by simpa using hj)
section
variable {α:Type} {mk:List Int→α} {n:Nat} {l:List (List UInt8)} {k:Nat}
end
end Go.Proofs.YtpenlfedkacglaaGreatDoor
