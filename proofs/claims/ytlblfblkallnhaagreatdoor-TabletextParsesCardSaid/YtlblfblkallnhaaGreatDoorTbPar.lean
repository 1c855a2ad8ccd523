/- The walk of tabletext.Parse. -/
import Derived.Test.YtlblfblkallnhaaGreatDoorTbRdD
import Derived.Test.YtlblfblkallnhaaGreatDoorTbChkF
namespace Go.Proofs.YtlblfblkallnhaaGreatDoor
set_option linter.unusedVariables false
set_option linter.unusedSimpArgs false
open Go.RowKit
attribute [local go_sem] bs_size bs_get bs_append bs_extract bs_toList
attribute [-go_sem] run_equalIn_agg
theorem tpar_bad {s : List UInt8} {ls : Lns} {n : Nat} {x : Int} (h : linesF s = (ls, n, x)) (hx : x ≠ 0) : parT s = (zT, n, x) := by
  unfold parT
  rw [h, if_neg hx]
theorem tpar_empty {s : List UInt8} {n : Nat} (h : linesF s = ([], n, 0)) : parT s = (zT, 1, 4) := by
  unfold parT
  rw [h, if_pos rfl, if_pos rfl]
theorem tpar_go {s : List UInt8} {ls : Lns} {n : Nat} (h : linesF s = (ls, n, 0)) (hne : ls ≠ []) : parT s = endT (readT zT 0 0 ls) := by
  unfold parT
  rw [h, if_pos rfl, if_neg hne]
theorem tend_bad {m : Nat} : endT (zT, m, 4) = (zT, m, 4) := by unfold endT; exact if_neg (show ¬ (4 : Int) = 0 by decide)
theorem tend_ok {t : Tab} {m : Nat} (h : chkT t = 0) : endT (t, m, 0) = (t, 0, 0) := by unfold endT; rw [if_pos rfl, if_pos h]
theorem tend_chk {t : Tab} {m : Nat} {c : Int} (h : chkT t = c) (hc : c ≠ 0) : endT (t, m, 0) = (zT, 0, c) := by unfold endT; rw [if_pos rfl, if_neg (by rw [h]; exact hc), h]
theorem tk_next {t t' : Tab} {p : Int} {k : Nat} {ls : Lns} {K : Tab × Nat × Int} (hk : k < ls.length) (h : readT t p k (ls.drop k) = K) (h0 : stepT t p ls[k] = some t') : readT t' (rankF (ls[k].headD [])) (k + 1) (ls.drop (k + 1)) = K := by
  rw [List.drop_eq_getElem_cons hk, readT, h0] at h; exact h
theorem tk_stop {t : Tab} {p : Int} {k : Nat} {ls : Lns} {K : Tab × Nat × Int} (hk : k < ls.length) (h : readT t p k (ls.drop k) = K) (h0 : stepT t p ls[k] = none) : K = (zT, k + 1, 4) := by
  rw [List.drop_eq_getElem_cons hk, readT, h0] at h; exact h.symm
/-- The lists of a route are no longer than the lines. -/
def RouL (r : Rou) : Prop := r.secs.length ≤ 40000 ∧ r.osecs.length ≤ 40000
theorem listR_L {r r' : Rou} {k : Int} {a : List (List UInt8)} (h : listR r k a = some r') (hr : RouL r) (ha : a.length ≤ 40000) : RouL r' := by
  have key : ∀ n, optI a = some n → n.length ≤ 40000 := fun n hn => by rw [optI_len hn]; exact ha
  unfold listR at h
  repeat' (split at h)
  all_goals first
    | (cases h; done)
    | (cases ho : optS a <;> rw [ho] at h <;> simp at h; subst h; exact hr)
    | (cases ho : optG a <;> rw [ho] at h <;> simp at h; subst h; exact hr)
    | (cases ho : optE a <;> rw [ho] at h <;> simp at h; subst h; exact hr)
    | (cases ho : optI a <;> rw [ho] at h <;> simp at h; subst h; first | exact ⟨key _ ho, hr.2⟩ | exact ⟨hr.1, key _ ho⟩ | exact hr)
theorem zR_L : RouL zR := ⟨by simp [zR], by simp [zR]⟩
theorem step_L {t t' : Tab} {p : Int} {ln : List (List UInt8)} (h : stepT t p ln = some t') (hl : ln.length ≤ 40000) (hs : SecsOk t) : SecsOk t' := by
  unfold stepT at h
  split at h
  case isFalse => cases h
  have ha : ln.tail.length ≤ 40000 := by rw [List.length_tail]; omega
  generalize rankF (ln.headD []) = k at *
  generalize ln.tail = a at *
  unfold takeT at h
  split at h
  · unfold headT at h
    split at h
    · cases ho : optI a <;> rw [ho] at h <;> simp at h
      subst h; exact hs
    · cases h
  split at h
  · unfold pointT at h
    split at h
    · cases ho : optI a <;> rw [ho] at h <;> simp at h
      subst h; exact hs
    · cases h
  split at h
  · unfold routeT at h
    split at h
    · cases ho : optI a.tail <;> rw [ho] at h <;> simp at h
      subst h
      intro r hr
      rcases List.mem_append.1 hr with hr | hr
      · exact hs r hr
      · rw [List.mem_singleton] at hr
        subst hr
        exact zR_L
    · cases h
  · unfold listT at h
    split at h
    · cases h
    · cases ho : listR (t.rts.getLastD zR) k a <;> rw [ho] at h <;> simp at h
      subst h
      intro r hr
      rcases List.mem_append.1 hr with hr | hr
      · exact hs r ((List.dropLast_sublist _).subset hr)
      · rw [List.mem_singleton] at hr
        subst hr
        refine listR_L ho ?_ ha
        cases hg : t.rts.getLast? with
        | none => rw [List.getLast?_eq_none_iff] at hg; rw [hg]; exact zR_L
        | some q => rw [List.getLastD_eq_getLast?, hg]; exact hs q (List.mem_of_getLast? hg)
/-! ### What lies behind the reader's box -/
theorem RW.tv {w : World} {g : Nat} {t : Tab} {p : Int} {v1 v2 v3 : Value} (h : RW w g t p v1 v2 v3) : ∃ v : TabV, v.t = t ∧ v1 = .slice v.A1 v.t.rts.length v.c1 ∧ v2 = .slice v.A2 v.t.pts.length v.c2 ∧ v3 = .slice v.A3 v.t.homes.length v.c3 ∧ ∀ w' : World, (∀ b, g + 1 ≤ b → b < w.heap.size → w'.heap[b]? = w.heap[b]?) → w.heap.size ≤ w'.heap.size → TvR w' v := by
  obtain ⟨A1, c1, rfl, m1, r1⟩ := h.r1.rds
  obtain ⟨A2, c2, rfl, m2, r2⟩ := h.r2.reads_hi
  obtain ⟨A3, c3, rfl, m3, r3⟩ := h.r3.reads_hi
  refine ⟨⟨t, A1, A2, A3, c1, c2, c3⟩, rfl, rfl, rfl, rfl, fun w' hc hz => ?_⟩
  have k : ∀ p : Addr, (g + 1 ≤ p.block ∧ p.block < w.heap.size) → w'.cell? p = w.cell? p := fun p hp => cell_same (hc p.block hp.1 hp.2)
  have m : ∀ b, (g + 1 ≤ b ∧ b < w.heap.size) → b < w'.heap.size := fun b hb => by omega
  exact ⟨(r1.keep k).more m, (r2.keep k).more m, (r3.keep k).more m, m1, m2, m3, h.i1, h.i2⟩
def tvZ : TabV := ⟨zT, none, none, none, 0, 0, 0⟩
theorem i64z : I64n 0 := ⟨by decide, by decide⟩
theorem tvZ_rd (w : World) : TvR w tvZ := ⟨RdS.nil _ _ _ _, RdS.nil _ _ _ _, RdS.nil _ _ _ _, by simp [tvZ, zT], by simp [tvZ, zT], by simp [tvZ, zT], i64z, i64z⟩
def TParPost (w : World) (r : Tab × Nat × Int) (e : Ending) (w' : World) : Prop := ∃ v : TabV, v.t = r.1 ∧ e = .returned (.tuple #[tvA v, .int .i64 r.2.1, .int .i64 r.2.2]) ∧ TvR w' v ∧ Below w.heap.size w w'
theorem tparPost_no {w w' : World} {r : Tab × Nat × Int} {n : Nat} {x : Int} {e : Ending} (h : r = (zT, n, x)) (he : e = .returned (.tuple #[tvA tvZ, .int .i64 n, .int .i64 x])) (hb : Below w.heap.size w w') : TParPost w r e w' := by
  subst h
  exact ⟨tvZ, rfl, he, tvZ_rd _, hb⟩
/-- The box of the result, made at the call's beginning. -/
structure ResB (w : World) (r : Nat) (cs : Array Value) (wr : World) : Prop where
  bel : Below w.heap.size w wr
  ge : w.heap.size ≤ r
  blk : Blk wr r 25 cs
section
variable {w wr w' : World} {r : Nat} {cs : Array Value}
theorem ResB.now (h : ResB w r cs wr) (hb : Below wr.heap.size wr w') : ResB w r cs w' := ⟨bel_then h.bel h.bel.size hb, h.ge, h.blk.now hb⟩
theorem ResB.low (h : ResB w r cs wr) {B : Nat} (hB : r < B) (hb : Below B wr w') : ResB w r cs w' := ⟨h.bel.trans (hb.mono (by have := h.ge; omega)), h.ge, h.blk.below hb hB⟩
theorem ResB.set (h : ResB w r cs wr) (i : Nat) (u : Value) : ResB w r (cs.setIfInBounds i u) (wr.setCell ⟨r, i, none⟩ u) := ⟨h.bel.setCell (p := ⟨r, i, none⟩) h.ge u, h.ge, h.blk.set i u⟩
end
def put5 (w : World) (r : Nat) (a b c d e : Value) : World := ((((w.setCell ⟨r, 0, none⟩ a).setCell ⟨r, 1, none⟩ b).setCell ⟨r, 2, none⟩ c).setCell ⟨r, 3, none⟩ d).setCell ⟨r, 4, none⟩ e
theorem put5_bel {w wr : World} {r : Nat} {cs : Array Value} (h : ResB w r cs wr) (a b c d e : Value) : Below w.heap.size w (put5 wr r a b c d e) := (((((h.set 0 a).set 1 b).set 2 c).set 3 d).set 4 e).bel
theorem put5_far (w : World) (r : Nat) (a b c d e : Value) (k : Nat) (hk : k ≠ r) : (put5 w r a b c d e).heap[k]? = w.heap[k]? := by
  unfold put5
  rw [Below.heap_setCell _ _ _ _ hk, Below.heap_setCell _ _ _ _ hk, Below.heap_setCell _ _ _ _ hk, Below.heap_setCell _ _ _ _ hk, Below.heap_setCell _ _ _ _ hk]
theorem put5_size (w : World) (r : Nat) (a b c d e : Value) : (put5 w r a b c d e).heap.size = w.heap.size := by simp [put5, World.setCell]
def zCs : Array Value := #[.slice none 0 0, .slice none 0 0, .slice none 0 0, .int .i64 0, .int .i64 0]
/-- What holds while the lines are read. -/
structure TPI (w2 : World) (k : Nat) (t : Tab) (p : Int) (wr : World) : Prop where
  rws : RWS wr w2.heap.size t p
  bel : Below w2.heap.size w2 wr
  sm : SmT t k
  rk : RkT t p
  sc : SecsOk t
theorem TPI.start (w2 : World) : TPI w2 0 zT 0 (w2.alloc (.cells #[.slice none 0 0, .slice none 0 0, .slice none 0 0, .int .i64 0, .int .i64 0, .int .i64 0] 56)) :=
  ⟨⟨_, _, _, ⟨Blk.new _ _ _ _ rfl, OwnT.nil _ _ _ _, OwnR.nil _ _ _ _ (Nat.zero_le _), OwnR.nil _ _ _ _ (Nat.zero_le _), (fun b hb => by cases hb), i64z, i64z⟩⟩, (Below.refl _ _).alloc (Nat.le_refl _) _, ⟨by simp [zT], by simp [zT], by simp [zT]⟩, ⟨fun _ => rfl, by omega⟩, by intro r hr; simp [zT] at hr⟩
theorem TPI.step {w2 : World} {k : Nat} {t t' : Tab} {p : Int} {wr w' : World} (h : TPI w2 k t p wr) {ln : List (List UInt8)} (hs : stepT t p ln = some t') (hl : ln.length ≤ 40000) (hr : RWS w' w2.heap.size t' (rankF (ln.headD []))) (hb : Below w2.heap.size wr w') : TPI w2 (k + 1) t' (rankF (ln.headD [])) w' :=
  have hi := step_inv hs h.sm h.rk
  ⟨hr, h.bel.trans hb, hi.1, hi.2, step_L hs hl h.sc⟩
theorem line_any (w : World) (E : EnvR w) (g : Nat) (t : Tab) (p : Int) (h : RWS w g t p) (hk : RkT t p) (hs : SmT t 40000) (ln : List (List UInt8)) (hne : ln ≠ []) (A : Option Addr) (cap : Nat) (hr : RdS cS w (fun k => k < g) A ln) (hcap : ln.length ≤ cap) (hl : ln.length ≤ 40000) (hw : ∀ x ∈ ln, wordB x = true) :
    Calls Tryz.prog 26 #[.pointer (some ⟨g, 0, none⟩), .slice A ln.length cap] w (LinePost g w (stepT t p ln) (rankF (ln.headD []))) := by
  cases ln with
  | nil => exact absurd rfl hne
  | cons w0 a =>
    obtain ⟨b, off, rfl, _⟩ := hr.elS (i := 0) (by simp)
    exact line_go w E g t p h hk hs w0 a b off cap hr hcap (by simp at hl; omega) hw
theorem SmT.le {t : Tab} {n m : Nat} (h : SmT t n) (hn : n ≤ m) : SmT t m := ⟨Nat.le_trans h.s1 hn, Nat.le_trans h.s2 hn, Nat.le_trans h.s3 hn⟩
theorem good_words {m : Lns} (h : m.all goodL = true) : ∀ x ∈ m, x ≠ [] ∧ ∀ w ∈ x, wordB w = true := by
  intro x hx
  rw [List.all_eq_true] at h
  exact goodL_iff.1 (h x hx)
theorem tcheckC {c : Int} (v : TabV) (h : chkT v.t = c) (w : World) (hr : TvR w v) (hsm : SecsOk v.t) : Calls Tryz.prog 15 #[tvA v] w fun e w' => e = .returned (.int .i64 c) ∧ Below w.heap.size w w' := h ▸ tcheck_any v w hr hsm
theorem cnt_mem : ∀ {m : Lns} {x : List (List UInt8)}, x ∈ m → x.length ≤ cnt m
  | [], _, h => by simp at h
  | y :: r, x, h => by
    unfold cnt
    simp only [List.map_cons, List.sum_cons]
    rcases List.mem_cons.1 h with rfl | h
    · omega
    · have := cnt_mem h
      unfold cnt at this
      omega
set_option maxRecDepth 100000 in
set_option maxHeartbeats 16000000 in
theorem tparse_any (s : List UInt8) (w : World) (E : EnvR w) (hs : s.length ≤ maxLen) : Calls Tryz.prog 12 #[.string (bs s)] w (TParPost w (parT s)) := by
  obtain ⟨⟨ls, n, x⟩, hl⟩ : ∃ r, linesF s = r := ⟨_, rfl⟩
  have HL := Lib.hid fun W E => lnC hl W E hs
  have hR0 : ResB w w.heap.size zCs (w.alloc (.cells zCs 25)) := ⟨(Below.refl _ _).alloc (Nat.le_refl _) _, Nat.le_refl _, Blk.new _ _ _ _ rfl⟩
  unfold zCs at hR0
  by_cases hx : x = 0
  case neg =>
    have HF := Lib.hid (tpar_bad hl hx)
    have hxb : (x != 0) = true := by simpa using hx
    clear hl hx hs
    go_enter Tryz.func12, Tryz.ntmps12
    go_wp2_with fail
    refine (HL.out _ (E.toEnv.now hR0.bel)).mono ?_
    rintro e w2 ⟨A, cap, rfl, hml, hrd, hq⟩
    have hR2 := hR0.now hq
    have z0 := hR2.blk.cell 0
    have z1 := hR2.blk.cell 1
    have z2 := hR2.blk.cell 2
    have z3 := hR2.blk.cell 3
    have z4 := hR2.blk.cell 4
    have zf := hR2.blk.free
    simp only [List.getElem?_toArray, List.getElem?_cons_zero, List.getElem?_cons_succ] at z0 z1 z2 z3 z4
    have HB := Lib.hid (put5_bel hR2 (.slice none 0 0) (.slice none 0 0) (.slice none 0 0) (.int .i64 0) (.int .i64 0))
    clear hR0 hR2 hq hrd hml
    go_wp2_with fail
    exact bodyPost_ret (v := .tuple #[.agg #[.slice none 0 0, .slice none 0 0, .slice none 0 0, .int .i64 0, .int .i64 0], .int .i64 n, .int .i64 x]) (by simp [results, Tryz.results12, go_sem, z0, z1, z2, z3, z4]) rfl (tparPost_no HF.out rfl HB.out)
  subst hx
  by_cases hne : ls = []
  case pos =>
    subst hne
    have HF := Lib.hid (tpar_empty hl)
    clear hl hs
    go_enter Tryz.func12, Tryz.ntmps12
    go_wp2_with fail
    refine (HL.out _ (E.toEnv.now hR0.bel)).mono ?_
    rintro e w2 ⟨A, cap, rfl, hml, hrd, hq⟩
    have hR2 := hR0.now hq
    have z0 := hR2.blk.cell 0
    have z1 := hR2.blk.cell 1
    have z2 := hR2.blk.cell 2
    have z3 := hR2.blk.cell 3
    have z4 := hR2.blk.cell 4
    have zf := hR2.blk.free
    simp only [List.getElem?_toArray, List.getElem?_cons_zero, List.getElem?_cons_succ] at z0 z1 z2 z3 z4
    have HB := Lib.hid (put5_bel hR2 (.slice none 0 0) (.slice none 0 0) (.slice none 0 0) (.int .i64 0) (.int .i64 0))
    clear hR0 hR2 hq hrd hml
    go_wp2_with fail
    exact bodyPost_ret (v := .tuple #[.agg #[.slice none 0 0, .slice none 0 0, .slice none 0 0, .int .i64 0, .int .i64 0], .int .i64 1, .int .i64 4]) (by simp [results, Tryz.results12, go_sem, z0, z1, z2, z3, z4]) rfl (tparPost_no HF.out rfl HB.out)
  have hgo := tpar_go hl hne
  obtain ⟨hgood, htx, hn0, hshort⟩ := lines_ok hl
  have HG := Lib.hid (good_words hgood)
  have hls : ls.length ≤ 32768 := by have := lines_few ls; rw [← htx] at this; omega
  have HCN : Hid (∀ x ∈ ls, x.length ≤ 40000) := Lib.hid fun x hx => by have h1 := cnt_text ls hgood; have h2 := cnt_mem hx; rw [← htx] at h1; omega
  have hlp := List.length_pos_iff.2 hne
  have hl0 : ((ls.length : Int) == 0) = false := by simp; omega
  have HP := Lib.hid hgo
  clear hl hs hgood htx hshort hgo hne hn0
  go_enter Tryz.func12, Tryz.ntmps12
  go_wp2_with fail
  refine (HL.out _ (E.toEnv.now hR0.bel)).mono ?_
  rintro e w2 ⟨A, cap, rfl, hml, hrd, hq⟩
  have hR2 := hR0.now hq
  have hrlt := hR2.blk.lt
  have E2 := E.now hR2.bel
  have hPI := TPI.start w2
  clear hR0 hq HL
  dsimp only at hml hrd ⊢
  go_wp2_with fail
  go_loopw [29] (fun i wr => ∃ (k : Nat) (t : Tab) (p : Int), k ≤ ls.length ∧ i = .int .i64 k ∧ TPI w2 k t p wr ∧ Hid (readT t p k (ls.drop k) = readT zT 0 0 ls)) (fun i _ => ls.length - (intOf i).toNat)
  case atStart => exact ⟨0, zT, 0, Nat.zero_le _, rfl, hPI, Lib.hid rfl⟩
  case round =>
    obtain ⟨k, t, p, hk, rfl, hb, HK⟩ := hrel
    clear hPI
    have hsz := hb.bel.size
    have hRr := hR2.low hrlt hb.bel
    have Er := E2.now (hb.bel.mono (Nat.le_refl _))
    by_cases hlt : k < ls.length
    · have hki : (k : Int) < (ls.length : Int) := by omega
      obtain ⟨b, off, A', cap', hA, y0, hcap, hr'⟩ := elL (hrd.low hb.bel) hlt
      obtain ⟨hne, hwl⟩ := HG.out _ (List.getElem_mem hlt)
      have hll := HCN.out _ (List.getElem_mem hlt)
      have HRD := Lib.hid (line_any wr Er _ t p hb.rws hb.rk (hb.sm.le (by omega)) ls[k] hne A' cap' hr' hcap.2 hll hwl)
      rw [hA]
      cases h0 : stepT t p ls[k] with
      | some t' =>
        have HN := Lib.hid (tk_next hlt HK.out h0)
        have HST := Lib.hid fun w' hr hbb => hb.step (w' := w') h0 hll hr hbb
        rw [h0] at HRD
        clear h0 hA hr' hne hwl hb HK hcap
        generalize ls[k] = ln at *
        generalize rankF (ln.headD []) = q at *
        go_wp2_with fail
        refine HRD.out.mono ?_
        rintro e w5 ⟨rfl, hb5, hbx5, hr5⟩
        have hb6 := HST.out w5 (hr5.out t' rfl) hb5
        clear hr5 hbx5
        go_wp2_with fail
        go_roundw
        case rel => exact ⟨k + 1, _, _, by omega, by go_num, hb6, HN⟩
        case measure => simp [intOf]; omega
      | none =>
        have HF : Hid (parT s = (zT, k + 1, 4)) := Lib.hid (by rw [HP.out, tk_stop hlt HK.out h0, tend_bad])
        have hb1 := hb.bel
        rw [h0] at HRD
        clear h0 hA hr' hne hwl hb HK hcap
        generalize ls[k] = ln at *
        go_wp2_with fail
        refine HRD.out.mono ?_
        rintro e w5 ⟨rfl, hb5, hbx5, hr5⟩
        clear hr5 hbx5
        have hR5 := hRr.low hrlt hb5
        have z0 := hR5.blk.cell 0
        have z1 := hR5.blk.cell 1
        have z2 := hR5.blk.cell 2
        have z3 := hR5.blk.cell 3
        have z4 := hR5.blk.cell 4
        have zf := hR5.blk.free
        simp only [List.getElem?_toArray, List.getElem?_cons_zero, List.getElem?_cons_succ] at z0 z1 z2 z3 z4
        have HB := Lib.hid (put5_bel hR5 (.slice none 0 0) (.slice none 0 0) (.slice none 0 0) (.int .i64 0) (.int .i64 0))
        have hk1 : (k : Int) + 1 ≤ 40000 := by omega
        clear hR5 hRr hR2
        go_wp2_with fail
        exact bodyPost_ret (v := .tuple #[.agg #[.slice none 0 0, .slice none 0 0, .slice none 0 0, .int .i64 0, .int .i64 0], .int .i64 ((k + 1 : Nat) : Int), .int .i64 4]) (by simp [results, Tryz.results12, go_sem, z0, z1, z2, z3, z4]) rfl (tparPost_no HF.out rfl HB.out)
    · have HE : Hid (readT zT 0 0 ls = (t, 0, 0)) := Lib.hid (by rw [← HK.out, List.drop_of_length_le (by omega)]; rfl)
      obtain ⟨v1, v2, v3, hrw⟩ := hb.rws
      obtain ⟨v, rfl, rfl, rfl, rfl, hv⟩ := hrw.tv
      have hsc := hb.sc
      have x0 := hrw.x0
      have x1 := hrw.x1
      have x2 := hrw.x2
      have x3 := hrw.x3
      have x4 := hrw.x4
      have hvr := hv wr (fun _ _ _ => rfl) (Nat.le_refl _)
      obtain ⟨c, hc⟩ : ∃ c, chkT v.t = c := ⟨_, rfl⟩
      have HC := Lib.hid (tcheckC v hc wr hvr hsc)
      unfold tvA at HC
      have hbel := hb.bel
      clear hb HK hvr hrd
      by_cases h0 : c = 0
      case neg =>
        have HF : Hid (parT s = (zT, 0, c)) := Lib.hid (by rw [HP.out, HE.out, tend_chk hc h0])
        have hcb : (c != 0) = true := by simpa using h0
        clear hc h0 hv
        go_wp2_with fail
        refine HC.out.mono ?_
        rintro e w5 ⟨rfl, hq5⟩
        have hR5 := hRr.now hq5
        have z0 := hR5.blk.cell 0
        have z1 := hR5.blk.cell 1
        have z2 := hR5.blk.cell 2
        have z3 := hR5.blk.cell 3
        have z4 := hR5.blk.cell 4
        have zf := hR5.blk.free
        simp only [List.getElem?_toArray, List.getElem?_cons_zero, List.getElem?_cons_succ] at z0 z1 z2 z3 z4
        have HB := Lib.hid (put5_bel hR5 (.slice none 0 0) (.slice none 0 0) (.slice none 0 0) (.int .i64 0) (.int .i64 0))
        clear hR5 hRr hR2 x0 x1 x2 x3 x4 hrw
        go_wp2_with fail
        exact bodyPost_ret (v := .tuple #[.agg #[.slice none 0 0, .slice none 0 0, .slice none 0 0, .int .i64 0, .int .i64 0], .int .i64 0, .int .i64 c]) (by simp [results, Tryz.results12, go_sem, z0, z1, z2, z3, z4]) rfl (tparPost_no HF.out rfl HB.out)
      case pos =>
        subst h0
        have HF : Hid (parT s = (v.t, 0, 0)) := Lib.hid (by rw [HP.out, HE.out, tend_ok hc])
        clear hc
        go_wp2_with fail
        refine HC.out.mono ?_
        rintro e w5 ⟨rfl, hq5⟩
        have hR5 := hRr.now hq5
        have z0 := hR5.blk.cell 0
        have z1 := hR5.blk.cell 1
        have z2 := hR5.blk.cell 2
        have z3 := hR5.blk.cell 3
        have z4 := hR5.blk.cell 4
        have zf := hR5.blk.free
        simp only [List.getElem?_toArray, List.getElem?_cons_zero, List.getElem?_cons_succ] at z0 z1 z2 z3 z4
        have HB := Lib.hid (put5_bel hR5 (.slice v.A1 v.t.rts.length v.c1) (.slice v.A2 v.t.pts.length v.c2) (.slice v.A3 v.t.homes.length v.c3) (.int .i64 v.t.nsec) (.int .i64 v.t.nsig))
        have HLV := Lib.hid (hv (put5 w5 w.heap.size (.slice v.A1 v.t.rts.length v.c1) (.slice v.A2 v.t.pts.length v.c2) (.slice v.A3 v.t.homes.length v.c3) (.int .i64 v.t.nsec) (.int .i64 v.t.nsig)) (fun b hb1 hb2 => by rw [put5_far _ _ _ _ _ _ _ _ (by omega)]; exact hq5.block b hb2) (by rw [put5_size]; exact hq5.size))
        have hrw5 := hrw.now hq5
        clear x0 x1 x2 x3 x4 hrw hv
        have x0 := hrw5.x0
        have x1 := hrw5.x1
        have x2 := hrw5.x2
        have x3 := hrw5.x3
        have x4 := hrw5.x4
        clear hR5 hRr hR2 hrw5
        go_wp2_with fail
        exact bodyPost_ret (v := .tuple #[tvA v, .int .i64 0, .int .i64 0]) (by unfold tvA; simp [results, Tryz.results12, go_sem, z0, z1, z2, z3, z4]) rfl ⟨v, by rw [HF.out], by rw [HF.out]; rfl, HLV.out, HB.out⟩
end Go.Proofs.YtlblfblkallnhaaGreatDoor
