/- The walk of tabletext.Print. -/
import Derived.Test.YtlblfblkallnhaaGreatDoorTbLst
import Derived.Test.YtlblfblkallnhaaGreatDoorTbChkF
import Derived.Test.YtlblfblkallnhaaGreatDoorTbPar
namespace Go.Proofs.YtlblfblkallnhaaGreatDoor
set_option linter.unusedVariables false
set_option linter.unusedSimpArgs false
open Go.RowKit
attribute [local go_sem] bs_size bs_get bs_append bs_extract bs_toList
attribute [-go_sem] run_equalIn_agg
/-- A table boxed, and lines of words that grow beside it. -/
def LnT (w w' : World) (v : TabV) (s : Value) (lns : Lns) : Prop := Bx w w' v ∧ OwnR (cL cS) w' w.heap.size 46 s lns w'.heap.size
theorem Bx.frm {w0 w w' : World} {v : TabV} {e : TypeId} (h : Bx w0 w v) (hr : TvR w0 v) (hf : Frm w0.heap.size e w w') (hne : 25 ≠ e) : Bx w0 w' v :=
  have hb := hf.keeps (Nat.le_refl _) h.bel.size h.bel
  ⟨hb, hf.blk h.blk hne, hr.now hb⟩
section
variable {w w1 w2 : World} {v : TabV} {s : Value} {lns : Lns}
theorem LnT.now (h : LnT w w1 v s lns) (hb : Below w1.heap.size w1 w2) : LnT w w2 v s lns := ⟨h.1.now hb, (h.2.now hb).raise hb.size (Nat.le_refl _)⟩
theorem LnT.alloc (h : LnT w w1 v s lns) (o : Obj) : LnT w (w1.alloc o) v s lns := h.now ((Below.refl _ _).alloc (Nat.le_refl _) o)
theorem LnT.drew (h : LnT w w1 v s lns) : LnT w w1.drew v s lns := h.now (Below.refl _ _).drew
theorem LnT.bel (h : LnT w w1 v s lns) : Below w.heap.size w w1 := h.1.bel
theorem LnT.push {s' : Value} {y : List (List UInt8)} {B : Nat} (h : LnT w w1 v s lns) (hr : TvR w v) (h2 : OwnR (cL cS) w2 w.heap.size 46 s' (lns ++ [y]) B) (hf : Frm w.heap.size 46 w1 w2) : LnT w w2 v s' (lns ++ [y]) :=
  ⟨h.1.frm hr hf (by decide), h2.raise (by obtain ⟨_, _, _, h⟩ := h2; exact h) (Nat.le_refl _)⟩
end
theorem row_one {w : World} {g gl n base : Nat} {T T' : TypeId} {words : List (List UInt8)} (hg : Blk w g T' #[.slice (some ⟨gl, 0, none⟩) n n]) (hn : n = words.length) (h : Blk w gl T (words.map fun x => Value.string (bs x)).toArray) (hx : ∀ x ∈ words, x.length ≤ maxLen) (hT : T ≠ T') (hl : words.length ≤ maxLen) (hb : base ≤ g) :
    OwnR (cL cS) w base T' (.slice (some ⟨g, 0, none⟩) 1 1) [words] w.heap.size := by
  subst hn
  refine ⟨[.slice (some ⟨gl, 0, none⟩) words.length words.length], ⟨by simp [cL], Or.inr ⟨g, 1, _, rfl, hb, hg, Nat.le_refl _, by unfold maxLen; omega, by simp [cL], by simp [cL]⟩⟩, ⟨_, [], by simp, line_rd h hx hT hl, rfl⟩, Nat.le_refl _⟩
theorem prtT_bad {t : Tab} {c : Int} (h : chkT t = c) (h0 : c ≠ 0) : prtT t = ([], c) := by subst h; unfold prtT; rw [if_neg h0]
theorem prtT_good {t : Tab} (h : chkT t = 0) : prtT t = joinF (linesT t) := by unfold prtT; rw [if_pos h]
/-- What holds in the region of the first line. -/
theorem fmtE (w : World) (E : EnvR w) (n : Int) (W : World) (hn : I64n n) (hb : Below w.heap.size w W) : Calls Tryz.prog 21 #[.int .i64 n] W fun e w' => e = .returned (.string (bs (Lib.itoa n))) ∧ Below W.heap.size W w' := format_any n W (E.toEnv.now hb) hn.1 hn.2
def ptsK (t : Tab) (k : Nat) : Lns := thead t :: ((t.pts.zip t.homes).take k).map ptW
theorem ptsK_step {t : Tab} {k : Nat} (h : k < t.pts.length) (h2 : k < t.homes.length) : ptsK t (k + 1) = ptsK t k ++ [ptW (t.pts[k], t.homes[k])] := by
  unfold ptsK
  rw [map_take ptW (by rw [List.length_zip]; omega), List.getElem_zip, List.cons_append]
theorem ptsK_len (t : Tab) (k : Nat) : (ptsK t k).length ≤ k + 1 := by unfold ptsK; simp; omega
theorem ptsK_all {t : Tab} {k : Nat} (h : ¬ k < t.pts.length) : ptsK t k = thead t :: (t.pts.zip t.homes).map ptW := by
  unfold ptsK; rw [List.take_of_length_le (by rw [List.length_zip]; omega)]
def rtsK (t : Tab) (k : Nat) : Lns := (thead t :: (t.pts.zip t.homes).map ptW) ++ (t.rts.take k).flatMap rouW
theorem rtsK_all {t : Tab} {k : Nat} (h : ¬ k < t.rts.length) : rtsK t k = linesT t := by unfold rtsK linesT; rw [List.take_of_length_le (by omega)]; simp
def nineK (r : Rou) (k : Nat) : Lns := ((nineL r).take k).filter fun l => decide (1 < l.length)
theorem nineK_step {r : Rou} {k : Nat} (h : k < (nineL r).length) : nineK r (k + 1) = nineK r k ++ if 1 < (nineL r)[k].length then [(nineL r)[k]] else [] := by
  unfold nineK
  rw [List.take_succ_eq_append_getElem h, List.filter_append]
  congr 1
  by_cases h1 : 1 < (nineL r)[k].length <;> simp [h1]
theorem one_lst (w : List UInt8) (l : List (List UInt8)) : ([w :: l].filter fun l => decide (1 < l.length)) = lstW w l := by
  unfold lstW
  cases l <;> simp
theorem nineK_all {r : Rou} : nineK r 9 = listsR r := by
  have h : ∀ (a : List (List UInt8)) (l : Lns), ((a :: l).filter fun l => decide (1 < l.length)) = ([a].filter fun l => decide (1 < l.length)) ++ (l.filter fun l => decide (1 < l.length)) := fun a l => by rw [← List.filter_append]; rfl
  show ((nineL r).filter fun l => decide (1 < l.length)) = listsR r
  unfold nineL listsR
  rw [h, one_lst, h, one_lst, h, one_lst, h, one_lst, h, one_lst, h, one_lst, h, one_lst, h, one_lst, one_lst]
theorem nineK_len (r : Rou) (k : Nat) : (nineK r k).length ≤ 9 := by
  unfold nineK
  exact Nat.le_trans (List.length_filter_le _ _) (by rw [List.length_take]; exact Nat.le_trans (Nat.min_le_right _ _) (Nat.le_refl 9))
theorem rtsK_step {t : Tab} {k : Nat} (h : k < t.rts.length) : rtsK t (k + 1) = (rtsK t k ++ [rhead t.rts[k]]) ++ nineK t.rts[k] 9 := by
  unfold rtsK
  rw [List.take_succ_eq_append_getElem h, List.flatMap_append, nineK_all]
  simp [rouW]
theorem rou_le (r : Rou) : (rouW r).length ≤ 10 := by
  have h := nineK_len r 9
  rw [nineK_all] at h
  unfold rouW
  rw [List.length_cons]
  omega
theorem flat_le : ∀ l : List Rou, (l.flatMap rouW).length ≤ l.length * 10
  | [] => by simp
  | r :: l => by
    have := flat_le l
    have h2 := rou_le r
    rw [List.flatMap_cons, List.length_append, List.length_cons, Nat.succ_mul]
    omega
theorem rtsK_len (t : Tab) (k : Nat) (hk : k ≤ t.rts.length) : (rtsK t k).length ≤ 1 + t.pts.length + k * 10 := by
  unfold rtsK
  have := flat_le (t.rts.take k)
  rw [List.length_take, Nat.min_eq_left hk] at this
  rw [List.length_append, List.length_cons, List.length_map, List.length_zip]
  omega
theorem joinF_err {ls : Lns} {t : List UInt8} {x : Int} (h : joinF ls = (t, x)) (hx : x ≠ 0) : t = [] := by
  unfold joinF at h
  repeat' (split at h)
  all_goals (simp only [Prod.mk.injEq] at h; obtain ⟨h1, h2⟩ := h; first | exact h1.symm | exact absurd h2.symm hx)
theorem lst_short {w : List UInt8} {l : List (List UInt8)} {b : Nat} (h : l.length ≤ b) : ∀ x ∈ lstW w l, x.length ≤ b + 1 := by
  intro x hx
  unfold lstW at hx
  split at hx
  · cases hx
  · rw [List.mem_singleton] at hx; subst hx; simpa using h
theorem rou_short {r : Rou} (h : ShR r) : ∀ x ∈ rouW r, x.length ≤ 40002 := by
  obtain ⟨h1, h2, h3, h4, h5, h6, h7, h8, h9⟩ := h
  intro x hx
  have key : ∀ (w : List UInt8) (l : List (List UInt8)), l.length ≤ 40000 → x ∈ lstW w l → x.length ≤ 40002 := fun w l hl hm => Nat.le_trans (lst_short hl x hm) (by omega)
  unfold rouW listsR at hx
  simp only [List.mem_cons, List.mem_append] at hx
  rcases hx with rfl | hx | hx | hx | hx | hx | hx | hx | hx | hx
  · simp [rhead]
  · exact key _ _ (by simpa [stpsW] using h1) hx
  · exact key _ _ (by simpa [stgsW] using h2) hx
  · exact key _ _ (by simpa [numsW] using h3) hx
  · exact key _ _ (by simpa [stpsW] using h4) hx
  · exact key _ _ (by simpa [stgsW] using h5) hx
  · exact key _ _ (by simpa [numsW] using h6) hx
  · exact key _ _ (by simpa [stgsW] using h7) hx
  · exact key _ _ (by simpa [numsW] using h8) hx
  · exact key _ _ (by simpa [endsW] using h9) hx
theorem linesT_short {t : Tab} (h : ∀ r ∈ t.rts, ShR r) : ∀ x ∈ linesT t, x.length ≤ 40002 := by
  intro x hx
  unfold linesT at hx
  simp only [List.mem_cons, List.mem_append, List.mem_map, List.mem_flatMap] at hx
  rcases hx with rfl | ⟨p, _, rfl⟩ | ⟨r, hr, hx⟩
  · simp [thead]
  · simp [ptW]
  · exact rou_short (h r hr) x hx
set_option maxRecDepth 100000 in
set_option maxHeartbeats 40000000 in
theorem tprint_any (v : TabV) (w : World) (E : EnvR w) (hr : TvR w v) (hsm : ∀ r ∈ v.t.rts, ShR r) : Calls Tryz.prog 10 #[tvA v] w fun e w' => e = .returned (.tuple #[.string (bs (prtT v.t).1), .int .i64 (prtT v.t).2]) ∧ Below w.heap.size w w' := by
  have hb0 := Bx.new hr
  have x0 := hb0.x0
  have x1 := hb0.x1
  have x2 := hb0.x2
  have x3 := hb0.x3
  have x4 := hb0.x4
  have hsc : SecsOk v.t := fun r h => by obtain ⟨_, _, h3, _, _, h6, _⟩ := hsm r h; exact ⟨Nat.le_trans h3 (by omega), Nat.le_trans h6 (by omega)⟩
  obtain ⟨c, hc⟩ : ∃ c, chkT v.t = c := ⟨_, rfl⟩
  have HC := Lib.hid fun W h => tcheckC v hc W h hsc
  by_cases h0 : c = 0
  case neg =>
    have HP := Lib.hid (prtT_bad hc h0)
    have hne : (c != 0) = true := by simpa using h0
    clear hc h0
    unfold tvA at HC ⊢
    go_enter Tryz.func10, Tryz.ntmps10
    go_wp2_with fail
    refine (HC.out _ hb0.rd).mono ?_
    rintro e w1 ⟨rfl, hq⟩
    have hB := (hb0.now hq).bel
    clear x0 x1 x2 x3 x4 hb0 hq
    go_wp2_with fail
    go_ret2
    exact ⟨by rw [HP.out]; rfl, hB⟩
  subst h0
  have HP := Lib.hid (prtT_good hc)
  obtain ⟨hk1, hk2, hk3, hk4, hk5, hk6⟩ := chkT_ok hc
  have hhl := pts_len hc
  have hlim : v.t.rts.length ≤ 48 ∧ v.t.pts.length ≤ 32 := by unfold limB at hk1; simp only [Bool.and_eq_true, decide_eq_true_eq] at hk1; exact ⟨hk1.1, hk1.2.1⟩
  obtain ⟨hl1, hl2⟩ := hlim
  have HF := Lib.hid (fmtE w E)
  have HR := Lib.hid hr
  have HSM := Lib.hid hsm
  obtain ⟨i0, hi0, hz0, hz1, hz2⟩ := info_parts infoStrT
  obtain ⟨j0, hj0, hy0, hy1, hy2⟩ := info_parts infoStrsT
  have hs1 := hr.sec
  have hs2 := hr.sig
  have hil1 := itoaP_len _ hs1
  have hil2 := itoaP_len _ hs2
  have HHL := Lib.hid hhl
  clear hc hk1 hk2 hk3 hk4 hk5 hk6 hsm hr hsc hhl
  unfold tvA at HC ⊢
  go_enter Tryz.func10, Tryz.ntmps10
  go_wp2_with fail
  refine (HC.out _ hb0.rd).mono ?_
  rintro e w1 ⟨rfl, hq⟩
  have hb1 := hb0.now hq
  clear x0 x1 x2 x3 x4 hb0 hq HC
  have HS1 := Lib.hid hs1
  have HS2 := Lib.hid hs2
  clear hs1 hs2
  go_wp2_with fail
  have hS : ∀ W, Bx w W v → (fun w' => w'.cell? ⟨w.heap.size, 3, none⟩ = some (.int .i64 v.t.nsec) ∧ w'.cell? ⟨w.heap.size, 4, none⟩ = some (.int .i64 v.t.nsig) ∧ Bx w w' v) W := fun W h => ⟨h.x3, h.x4, h⟩
  refine wp_region_held_drew (S := (fun w' => w'.cell? ⟨w.heap.size, 3, none⟩ = some (.int .i64 v.t.nsec) ∧ w'.cell? ⟨w.heap.size, 4, none⟩ = some (.int .i64 v.t.nsig) ∧ Bx w w' v)) (by kernel_rfl) (hS _ hb1.drew) (fun hHeld => ?_)
  refine tkY (i := 0) (oi := .mk _ _ _ _ _ _) (v := ?_) rfl (by kernel_rfl) (fun _ _ _ h => h) (Or.inl ⟨by rfl, ?_⟩) (by assumption) ?_
  rotate_left
  · intro W hSw; (try dsimp only at hSw); go_simp; first | done | with_reducible rfl
  try simp only [Act.put, lsa, lsz, lss]
  refine tkY (i := 1) (oi := .mk _ _ _ _ _ _) (v := ?_) rfl (by kernel_rfl) (fun _ _ _ h => h) (Or.inl ⟨by rfl, ?_⟩) (by assumption) ?_
  rotate_left
  · intro W hSw; (try dsimp only at hSw); go_simp; first | done | with_reducible rfl
  try simp only [Act.put, lsa, lsz, lss]
  refine tkY (i := 3) (oi := .mk _ _ _ _ _ _) (v := ?_) rfl (by kernel_rfl) (fun _ _ _ h => h) (Or.inl ⟨by rfl, ?_⟩) (by assumption) ?_
  rotate_left
  · intro W hSw; (try dsimp only at hSw); go_simp; first | done | with_reducible rfl
  try simp only [Act.put, lsa, lsz, lss]
  refine tkY (i := 4) (oi := .mk _ _ _ _ _ _) (v := ?_) rfl (by kernel_rfl) (fun _ _ _ h => h) (Or.inl ⟨by rfl, ?_⟩) (by assumption) ?_
  rotate_left
  · intro W hSw; (try dsimp only at hSw); go_simp; first | done | with_reducible rfl
  try simp only [Act.put, lsa, lsz, lss]
  refine wpAnyH_ready (rs := [2]) (by kernel_rfl) (by simp) (AllReadyH.cons (o := .mk _ _ _ _ _ _) rfl (fun K hK => ?_) AllReadyH.nil)
  obtain ⟨-, -, hh⟩ := id hHeld
  go_simp
  go_at_call 21
  refine (HF.out _ _ HS1.out hh.bel).mono ?_
  rintro e wq ⟨rfl, hq⟩
  have hq0 := hS _ (hh.now hq)
  clear hh
  go_wp2_with fail
  refine hK.out _ _ ?_ (fun hHeld => ?_)
  · exact hq0
  clear hK K
  try simp only [Act.put, lsa, lsz, lss]
  clear hq0 hq
  refine wpAnyH_ready (rs := [5]) (by kernel_rfl) (by simp) (AllReadyH.cons (o := .mk _ _ _ _ _ _) rfl (fun K hK => ?_) AllReadyH.nil)
  obtain ⟨-, -, hh⟩ := id hHeld
  go_simp
  go_at_call 21
  refine (HF.out _ _ HS2.out hh.bel).mono ?_
  rintro e wq ⟨rfl, hq⟩
  have hq0 := hS _ (hh.now hq)
  clear hh
  go_wp2_with fail
  refine hK.out _ _ ?_ (fun hHeld => ?_)
  · exact hq0
  clear hK K
  try simp only [Act.put, lsa, lsz, lss]
  obtain ⟨-, -, hh⟩ := id hHeld
  clear hq0 hq hHeld
  refine wpAnyH_ready (rs := [6]) (by kernel_rfl) (by simp) (AllReadyH.cons (o := .mk _ _ _ _ _ _) rfl (fun K hK => ?_) AllReadyH.nil)
  go_simp
  refine hK.out _ _ ?_ (fun hHeld => ?_)
  · exact hS _ (hh.alloc _)
  clear hK K
  try simp only [Act.put, lsa, lsz, lss]
  refine wpAnyH_ready (rs := [7]) (by kernel_rfl) (by simp) (AllReadyH.cons (o := .mk _ _ _ _ _ _) rfl (fun K hK => ?_) AllReadyH.nil)
  go_simp
  refine hK.out _ _ ?_ (fun hHeld => ?_)
  · exact hS _ ((hh.alloc _).alloc _)
  clear hK K
  try simp only [Act.put, lsa, lsz, lss]
  refine tkY (i := 8) (oi := .mk _ _ _ _ _ _) (v := ?_) rfl (by kernel_rfl) (fun _ _ _ h => h) (Or.inl ⟨by rfl, ?_⟩) (by assumption) ?_
  rotate_left
  · intro W hSw; (try dsimp only at hSw); go_simp; first | done | with_reducible rfl
  try simp only [Act.put, lsa, lsz, lss]
  refine wpAnyH_done (by kernel_rfl) ?_ _
  have hk1 : Blk ((wq.alloc (.cells #[.string { data := #[116, 97, 98, 108, 101] }, .string (bs (Lib.itoa v.t.nsec)), .string (bs (Lib.itoa v.t.nsig))] 9)).alloc (.cells #[.slice (some ⟨wq.heap.size, 0, none⟩) 3 3] 46)) wq.heap.size 9 ((thead v.t).map fun x => Value.string (bs x)).toArray := (Blk.new wq _ _ _ rfl).alloc _
  have hk2 : Blk ((wq.alloc (.cells #[.string { data := #[116, 97, 98, 108, 101] }, .string (bs (Lib.itoa v.t.nsec)), .string (bs (Lib.itoa v.t.nsig))] 9)).alloc (.cells #[.slice (some ⟨wq.heap.size, 0, none⟩) 3 3] 46)) (wq.heap.size + 1) 46 #[.slice (some ⟨wq.heap.size, 0, none⟩) 3 3] := Blk.new _ _ _ _ (by simp)
  have hszq := hh.bel.size
  have hrow := row_one (base := w.heap.size) hk2 (words := thead v.t) rfl hk1 (fun x hx => by (simp only [thead, List.mem_cons, List.not_mem_nil, or_false] at hx; rcases hx with rfl | rfl | rfl; exact Nat.le_trans (show tableW.length ≤ 6 by decide) (by unfold maxLen; omega); (unfold maxLen; omega); (unfold maxLen; omega))) (by decide) (by unfold maxLen; simp [thead]) (by omega)
  have hln : LnT w _ v _ (ptsK v.t 0) := ⟨(hh.alloc _).alloc _, hrow⟩
  have x1 := hln.1.x1
  clear hk1 hk2 hrow hh hS hb1 hszq hHeld
  go_wp2_with fail
  clear x1
  generalize (wq.alloc (.cells #[.string { data := #[116, 97, 98, 108, 101] }, .string (bs (Lib.itoa v.t.nsec)), .string (bs (Lib.itoa v.t.nsig))] 9)).alloc (.cells #[.slice (some ⟨wq.heap.size, 0, none⟩) 3 3] 46) = w2 at *
  generalize wq.heap.size = gq at *
  go_loopw [5, 30] (fun s n wr => ∃ k : Nat, k ≤ v.t.pts.length ∧ n = .int .i64 k ∧ LnT w wr v s (ptsK v.t k)) (fun _ n _ => v.t.pts.length - (intOf n).toNat)
  case atStart => exact ⟨0, Nat.zero_le _, rfl, hln⟩
  case round =>
    obtain ⟨k, hk, rfl, hl⟩ := hrel
    clear hln
    have hsz := hl.bel.size
    by_cases hlt : k < v.t.pts.length
    · have hki : (k : Int) < (v.t.pts.length : Int) := by omega
      have hlh : k < v.t.homes.length := by have := HHL.out; omega
      have hkh : (k : Int) < (v.t.homes.length : Int) := by omega
      obtain ⟨b, off, hA, lb, hq0, y0⟩ := hl.1.rd.r2.elI hlt
      obtain ⟨b2, o2, hA2, lb2, hm0, z0⟩ := HR.out.r3.elI hlh
      have lb2' : b2 < w.heap.size := lb2
      have HT := Lib.hid (ptsK_step hlt hlh)
      have hlen := ptsK_len v.t k
      have hiq := itoaP_len _ hq0
      have him := itoaP_len _ hm0
      obtain ⟨lns, hlns⟩ : ∃ x, ptsK v.t k = x := ⟨_, rfl⟩
      rw [hlns] at hl HT hlen
      clear hlns
      have HQ := Lib.hid hq0
      have HM := Lib.hid hm0
      have hlk : lns.length ≤ 100 := by omega
      clear hq0 hm0 hlen
      generalize v.t.pts[k] = q at *
      generalize v.t.homes[k] = m at *
      have hS : ∀ W, LnT w W v u5 lns → (fun w' => w'.cell? ⟨w.heap.size, 2, none⟩ = some (.slice (some ⟨b2, o2, none⟩) v.t.homes.length v.c3) ∧ w'.cell? ⟨b2, o2 + k, none⟩ = some (.int .i64 m) ∧ LnT w w' v u5 lns) W := fun W h => ⟨by rw [← hA2]; exact h.1.x2, (h.bel.cell (p := ⟨b2, o2 + k, none⟩) lb2').trans z0, h⟩
      have HSS := Lib.hid hS
      have HA2 := Lib.hid hA2
      clear hS
      rw [hA, hA2]
      clear hA hA2
      go_wp2_with fail
      refine wp_region_held_drew (S := (fun w' => w'.cell? ⟨w.heap.size, 2, none⟩ = some (.slice (some ⟨b2, o2, none⟩) v.t.homes.length v.c3) ∧ w'.cell? ⟨b2, o2 + k, none⟩ = some (.int .i64 m) ∧ LnT w w' v u5 lns)) (by kernel_rfl) (HSS.out _ hl.drew) (fun hHeld => ?_)
      refine tkY (i := 0) (oi := .mk _ _ _ _ _ _) (v := ?_) rfl (by kernel_rfl) (fun _ _ _ h => h) (Or.inl ⟨by rfl, ?_⟩) (by assumption) ?_
      rotate_left
      · intro W hSw; (try dsimp only at hSw); go_simp; first | done | with_reducible rfl
      try simp only [Act.put, lsa, lsz, lss]
      refine tkY (i := 1) (oi := .mk _ _ _ _ _ _) (v := ?_) rfl (by kernel_rfl) (fun _ _ _ h => h) (Or.inl ⟨by rfl, ?_⟩) (by assumption) ?_
      rotate_left
      · intro W hSw; (try dsimp only at hSw); go_simp; first | done | with_reducible rfl
      try simp only [Act.put, lsa, lsz, lss]
      refine tkY (i := 3) (oi := .mk _ _ _ _ _ _) (v := ?_) rfl (by kernel_rfl) (fun _ _ _ h => h) (Or.inl ⟨by rfl, ?_⟩) (by assumption) ?_
      rotate_left
      · intro W hSw; (try dsimp only at hSw); go_simp; first | done | with_reducible rfl
      try simp only [Act.put, lsa, lsz, lss]
      refine tkY (i := 4) (oi := .mk _ _ _ _ _ _) (v := ?_) rfl (by kernel_rfl) (fun _ _ _ h => h) (Or.inl ⟨by rfl, ?_⟩) (by assumption) ?_
      rotate_left
      · intro W hSw; (try dsimp only at hSw); go_simp; first | done | with_reducible rfl
      try simp only [Act.put, lsa, lsz, lss]
      refine tkY (i := 5) (oi := .mk _ _ _ _ _ _) (v := ?_) rfl (by kernel_rfl) (fun _ _ _ h => h) (Or.inl ⟨by rfl, ?_⟩) (by assumption) ?_
      rotate_left
      · intro W hSw; (try dsimp only at hSw); go_simp; first | done | with_reducible rfl
      try simp only [Act.put, lsa, lsz, lss]
      refine tkY (i := 6) (oi := .mk _ _ _ _ _ _) (v := ?_) rfl (by kernel_rfl) (fun _ _ _ h => h) (Or.inl ⟨by rfl, ?_⟩) (by assumption) ?_
      rotate_left
      · intro W hSw; (try dsimp only at hSw); go_simp; first | done | with_reducible rfl
      try simp only [Act.put, lsa, lsz, lss]
      refine tkY (i := 7) (oi := .mk _ _ _ _ _ _) (v := ?_) rfl (by kernel_rfl) (fun _ _ _ h => h) (Or.inl ⟨by rfl, ?_⟩) (by assumption) ?_
      rotate_left
      · intro W hSw; (try dsimp only at hSw); go_simp; first | done | with_reducible rfl
      try simp only [Act.put, lsa, lsz, lss]
      refine wpAnyH_ready (rs := [2]) (by kernel_rfl) (by simp) (AllReadyH.cons (o := .mk _ _ _ _ _ _) rfl (fun K hK => ?_) AllReadyH.nil)
      obtain ⟨-, -, hh⟩ := id hHeld
      go_simp
      go_at_call 21
      refine (HF.out _ _ HQ.out hh.bel).mono ?_
      rintro e wq ⟨rfl, hq⟩
      have hq0 := HSS.out _ (hh.now hq)
      clear hh
      go_wp2_with fail
      refine hK.out _ _ ?_ (fun hHeld => ?_)
      · exact hq0
      clear hK K
      try simp only [Act.put, lsa, lsz, lss]
      clear hq0 hq
      refine wpAnyH_ready (rs := [8]) (by kernel_rfl) (by simp) (AllReadyH.cons (o := .mk _ _ _ _ _ _) rfl (fun K hK => ?_) AllReadyH.nil)
      obtain ⟨-, -, hh⟩ := id hHeld
      go_simp
      go_at_call 21
      refine (HF.out _ _ HM.out hh.bel).mono ?_
      rintro e wq ⟨rfl, hq⟩
      have hq0 := HSS.out _ (hh.now hq)
      clear hh
      go_wp2_with fail
      refine hK.out _ _ ?_ (fun hHeld => ?_)
      · exact hq0
      clear hK K
      try simp only [Act.put, lsa, lsz, lss]
      obtain ⟨-, -, hh⟩ := id hHeld
      clear hq0 hq hHeld
      refine wpAnyH_ready (rs := [9]) (by kernel_rfl) (by simp) (AllReadyH.cons (o := .mk _ _ _ _ _ _) rfl (fun K hK => ?_) AllReadyH.nil)
      go_simp
      refine hK.out _ _ ?_ (fun hHeld => ?_)
      · exact HSS.out _ (hh.alloc _)
      clear hK K
      try simp only [Act.put, lsa, lsz, lss]
      refine wpAnyH_ready (rs := [10]) (by kernel_rfl) (by simp) (AllReadyH.cons (o := .mk _ _ _ _ _ _) rfl (fun K hK => ?_) AllReadyH.nil)
      go_simp
      refine hK.out _ _ ?_ (fun hHeld => ?_)
      · exact HSS.out _ ((hh.alloc _).alloc _)
      clear hK K
      try simp only [Act.put, lsa, lsz, lss]
      have hlC : LnT w ((wq.alloc (.cells #[.string { data := #[112, 111, 105, 110, 116] }, .string (bs (Lib.itoa q)), .string (bs (Lib.itoa m))] 9)).alloc (.cells #[.slice (some ⟨wq.heap.size, 0, none⟩) 3 3] 46)) v u5 lns := (hh.alloc _).alloc _
      have hkC : Blk ((wq.alloc (.cells #[.string { data := #[112, 111, 105, 110, 116] }, .string (bs (Lib.itoa q)), .string (bs (Lib.itoa m))] 9)).alloc (.cells #[.slice (some ⟨wq.heap.size, 0, none⟩) 3 3] 46)) wq.heap.size 9 ((ptW (q, m)).map fun x => Value.string (bs x)).toArray := (Blk.new wq _ _ _ rfl).alloc _
      have hkD : Blk ((wq.alloc (.cells #[.string { data := #[112, 111, 105, 110, 116] }, .string (bs (Lib.itoa q)), .string (bs (Lib.itoa m))] 9)).alloc (.cells #[.slice (some ⟨wq.heap.size, 0, none⟩) 3 3] 46)) (wq.heap.size + 1) 46 [.slice (some ⟨wq.heap.size, 0, none⟩) 3 3].toArray := Blk.new _ _ _ _ (by simp)
      have hrdC := line_rd (T' := 46) hkC (fun x hx => by (simp only [ptW, List.mem_cons, List.not_mem_nil, or_false] at hx; rcases hx with rfl | rfl | rfl; exact Nat.le_trans (show pointW.length ≤ 6 by decide) (by unfold maxLen; omega); (unfold maxLen; omega); (unfold maxLen; omega))) (by decide) (by unfold maxLen; simp [ptW])
      refine wpAnyH_ready (rs := [11]) (by kernel_rfl) (by simp) (AllReadyH.cons (o := .mk _ _ _ _ _ _) rfl (fun K hK => ?_) AllReadyH.nil)
      refine step_append_r rfl _ _ 43 rfl w.heap.size 46 j0 _ 24 Tryz.underlying43 hj0 hy0 hy1 hy2 rfl (by decide) u5 lns _ rfl hlC.2 [_] (ptW (q, m)) hrdC (fun u hu => by (simp at hu; subst hu; rfl)) _ rfl (blk_cells hkD) (by omega) (by omega) hlC.bel.size ?_
      intro v5 w5 hown5 hold5 hf5
      have hn5 : LnT w w5 v u5 lns := ⟨hlC.1.frm HR.out hf5 (by decide), hold5.raise hf5.size (Nat.le_refl _)⟩
      have hl5 := hlC.push HR.out hown5 hf5
      refine hK.out _ _ ?_ (fun hHeld => ?_)
      · exact HSS.out _ hn5
      clear hK K
      try simp only [Act.put, lsa, lsz, lss]
      refine tkY (i := 12) (oi := .mk _ _ _ _ _ _) (v := ?_) rfl (by kernel_rfl) (fun _ _ _ h => h) (Or.inl ⟨by rfl, ?_⟩) (by assumption) ?_
      rotate_left
      · intro W hSw; (try dsimp only at hSw); go_simp; first | done | with_reducible rfl
      try simp only [Act.put, lsa, lsz, lss]
      refine wpAnyH_done (by kernel_rfl) ?_ _
      go_wp2_with fail
      go_roundw
      case rel => exact ⟨k + 1, by omega, by go_num, by rw [HT.out]; exact hl5⟩
      case measure => simp [intOf]; omega
    · have HE := Lib.hid (ptsK_all hlt)
      have HE2 : Hid (ptsK v.t k = rtsK v.t 0) := Lib.hid (by rw [HE.out]; simp [rtsK])
      rw [HE2.out] at hl
      have x0 := hl.1.x0
      clear hk HE HE2
      go_wp2_with fail
      clear x0
      go_loopw [5, 51] (fun s n wr => ∃ k : Nat, k ≤ v.t.rts.length ∧ n = .int .i64 k ∧ LnT w wr v s (rtsK v.t k)) (fun _ n _ => v.t.rts.length - (intOf n).toNat)
      case atStart => exact ⟨0, Nat.zero_le _, rfl, hl⟩
      case round =>
        clear hl
        obtain ⟨k, hk, rfl, hl⟩ := hrel
        have hsz := hl.bel.size
        by_cases hlt : k < v.t.rts.length
        · have hki : (k : Int) < (v.t.rts.length : Int) := by omega
          obtain ⟨b, off, r, hA, lb, hre, hrv, y0, y1, y2, y3, y4, y5, y6, y7, y8, y9, y10, y11, y12, y13⟩ := HR.out.r1.elR hlt
          have lb' : b < w.heap.size := lb
          replace y0 := (hl.bel.cell (p := ⟨b, off + k * 14, none⟩) lb').trans y0
          replace y1 := (hl.bel.cell (p := ⟨b, off + k * 14 + 1, none⟩) lb').trans y1
          replace y2 := (hl.bel.cell (p := ⟨b, off + k * 14 + 2, none⟩) lb').trans y2
          replace y3 := (hl.bel.cell (p := ⟨b, off + k * 14 + 3, none⟩) lb').trans y3
          replace y4 := (hl.bel.cell (p := ⟨b, off + k * 14 + 4, none⟩) lb').trans y4
          replace y5 := (hl.bel.cell (p := ⟨b, off + k * 14 + 5, none⟩) lb').trans y5
          replace y6 := (hl.bel.cell (p := ⟨b, off + k * 14 + 6, none⟩) lb').trans y6
          replace y7 := (hl.bel.cell (p := ⟨b, off + k * 14 + 7, none⟩) lb').trans y7
          replace y8 := (hl.bel.cell (p := ⟨b, off + k * 14 + 8, none⟩) lb').trans y8
          replace y9 := (hl.bel.cell (p := ⟨b, off + k * 14 + 9, none⟩) lb').trans y9
          replace y10 := (hl.bel.cell (p := ⟨b, off + k * 14 + 10, none⟩) lb').trans y10
          replace y11 := (hl.bel.cell (p := ⟨b, off + k * 14 + 11, none⟩) lb').trans y11
          replace y12 := (hl.bel.cell (p := ⟨b, off + k * 14 + 12, none⟩) lb').trans y12
          replace y13 := (hl.bel.cell (p := ⟨b, off + k * 14 + 13, none⟩) lb').trans y13
          have hre' : v.t.rts[k] = r.r := hre.symm
          have hsh := HSM.out _ (List.getElem_mem hlt)
          rw [hre'] at hsh
          have HT := Lib.hid (rtsK_step hlt)
          rw [hre'] at HT
          have hlen := rtsK_len v.t k hk
          obtain ⟨lns, hlns⟩ : ∃ x, rtsK v.t k = x := ⟨_, rfl⟩
          rw [hlns] at hl HT hlen
          clear hlns hre hre'
          have hlk : lns.length ≤ 600 := by omega
          clear hlen
          have hnm := hrv.o.nm
          have HI1 := Lib.hid hrv.o.ent
          have HI2 := Lib.hid hrv.o.ext
          have HI3 := Lib.hid hrv.o.app
          have HI4 := Lib.hid hrv.o.len
          have i1 := itoaP_len _ HI1.out
          have i2 := itoaP_len _ HI2.out
          have i3 := itoaP_len _ HI3.out
          have i4 := itoaP_len _ HI4.out
          have HRV := Lib.hid hrv
          have HSH := Lib.hid hsh
          clear hrv hsh
          have hla := hl.alloc (.cells #[.string (bs r.r.name), .int .i64 r.r.ent, .int .i64 r.r.ext, .slice r.A1 r.r.path.length r.c1, .slice r.A2 r.r.pts.length r.c2, .slice r.A3 r.r.secs.length r.c3, .int .i64 r.r.app, .int .i64 r.r.len, .slice r.A4 r.r.over.length r.c4, .slice r.A5 r.r.opts.length r.c5, .slice r.A6 r.r.osecs.length r.c6, .slice r.A7 r.r.flk.length r.c7, .slice r.A8 r.r.grd.length r.c8, .slice r.A9 r.r.gap.length r.c9] 41)
          have hbk : Blk (wr.alloc (.cells #[.string (bs r.r.name), .int .i64 r.r.ent, .int .i64 r.r.ext, .slice r.A1 r.r.path.length r.c1, .slice r.A2 r.r.pts.length r.c2, .slice r.A3 r.r.secs.length r.c3, .int .i64 r.r.app, .int .i64 r.r.len, .slice r.A4 r.r.over.length r.c4, .slice r.A5 r.r.opts.length r.c5, .slice r.A6 r.r.osecs.length r.c6, .slice r.A7 r.r.flk.length r.c7, .slice r.A8 r.r.grd.length r.c8, .slice r.A9 r.r.gap.length r.c9] 41)) wr.heap.size 41 #[.string (bs r.r.name), .int .i64 r.r.ent, .int .i64 r.r.ext, .slice r.A1 r.r.path.length r.c1, .slice r.A2 r.r.pts.length r.c2, .slice r.A3 r.r.secs.length r.c3, .int .i64 r.r.app, .int .i64 r.r.len, .slice r.A4 r.r.over.length r.c4, .slice r.A5 r.r.opts.length r.c5, .slice r.A6 r.r.osecs.length r.c6, .slice r.A7 r.r.flk.length r.c7, .slice r.A8 r.r.grd.length r.c8, .slice r.A9 r.r.gap.length r.c9] := Blk.new _ _ _ _ rfl
          rw [hA]
          clear hA
          go_wp2_with fail
          generalize wr.alloc (.cells #[.string (bs r.r.name), .int .i64 r.r.ent, .int .i64 r.r.ext, .slice r.A1 r.r.path.length r.c1, .slice r.A2 r.r.pts.length r.c2, .slice r.A3 r.r.secs.length r.c3, .int .i64 r.r.app, .int .i64 r.r.len, .slice r.A4 r.r.over.length r.c4, .slice r.A5 r.r.opts.length r.c5, .slice r.A6 r.r.osecs.length r.c6, .slice r.A7 r.r.flk.length r.c7, .slice r.A8 r.r.grd.length r.c8, .slice r.A9 r.r.gap.length r.c9] 41) = W0 at *
          generalize wr.heap.size = ge at *
          clear y0 y1 y2 y3 y4 y5 y6 y7 y8 y9 y10 y11 y12 y13
          have HSS : Hid (∀ W, (LnT w W v u5 lns ∧ Blk W ge 41 #[.string (bs r.r.name), .int .i64 r.r.ent, .int .i64 r.r.ext, .slice r.A1 r.r.path.length r.c1, .slice r.A2 r.r.pts.length r.c2, .slice r.A3 r.r.secs.length r.c3, .int .i64 r.r.app, .int .i64 r.r.len, .slice r.A4 r.r.over.length r.c4, .slice r.A5 r.r.opts.length r.c5, .slice r.A6 r.r.osecs.length r.c6, .slice r.A7 r.r.flk.length r.c7, .slice r.A8 r.r.grd.length r.c8, .slice r.A9 r.r.gap.length r.c9]) → (fun w' => w'.cell? ⟨ge, 0, none⟩ = some (.string (bs r.r.name)) ∧ w'.cell? ⟨ge, 1, none⟩ = some (.int .i64 r.r.ent) ∧ w'.cell? ⟨ge, 2, none⟩ = some (.int .i64 r.r.ext) ∧ w'.cell? ⟨ge, 6, none⟩ = some (.int .i64 r.r.app) ∧ w'.cell? ⟨ge, 7, none⟩ = some (.int .i64 r.r.len) ∧ (LnT w w' v u5 lns ∧ Blk w' ge 41 #[.string (bs r.r.name), .int .i64 r.r.ent, .int .i64 r.r.ext, .slice r.A1 r.r.path.length r.c1, .slice r.A2 r.r.pts.length r.c2, .slice r.A3 r.r.secs.length r.c3, .int .i64 r.r.app, .int .i64 r.r.len, .slice r.A4 r.r.over.length r.c4, .slice r.A5 r.r.opts.length r.c5, .slice r.A6 r.r.osecs.length r.c6, .slice r.A7 r.r.flk.length r.c7, .slice r.A8 r.r.grd.length r.c8, .slice r.A9 r.r.gap.length r.c9])) W) := Lib.hid fun W h => ⟨h.2.cell 0, h.2.cell 1, h.2.cell 2, h.2.cell 6, h.2.cell 7, h⟩
          refine wp_region_held_drew (S := (fun w' => w'.cell? ⟨ge, 0, none⟩ = some (.string (bs r.r.name)) ∧ w'.cell? ⟨ge, 1, none⟩ = some (.int .i64 r.r.ent) ∧ w'.cell? ⟨ge, 2, none⟩ = some (.int .i64 r.r.ext) ∧ w'.cell? ⟨ge, 6, none⟩ = some (.int .i64 r.r.app) ∧ w'.cell? ⟨ge, 7, none⟩ = some (.int .i64 r.r.len) ∧ (LnT w w' v u5 lns ∧ Blk w' ge 41 #[.string (bs r.r.name), .int .i64 r.r.ent, .int .i64 r.r.ext, .slice r.A1 r.r.path.length r.c1, .slice r.A2 r.r.pts.length r.c2, .slice r.A3 r.r.secs.length r.c3, .int .i64 r.r.app, .int .i64 r.r.len, .slice r.A4 r.r.over.length r.c4, .slice r.A5 r.r.opts.length r.c5, .slice r.A6 r.r.osecs.length r.c6, .slice r.A7 r.r.flk.length r.c7, .slice r.A8 r.r.grd.length r.c8, .slice r.A9 r.r.gap.length r.c9]))) (by kernel_rfl) (HSS.out _ ⟨hla.drew, hbk.drew⟩) (fun hHeld => ?_)
          refine tkY (i := 0) (oi := .mk _ _ _ _ _ _) (v := ?_) rfl (by kernel_rfl) (fun _ _ _ h => h) (Or.inl ⟨by rfl, ?_⟩) (by assumption) ?_
          rotate_left
          · intro W hSw; (try dsimp only at hSw); go_simp; first | done | with_reducible rfl
          try simp only [Act.put, lsa, lsz, lss]
          refine tkY (i := 1) (oi := .mk _ _ _ _ _ _) (v := ?_) rfl (by kernel_rfl) (fun _ _ _ h => h) (Or.inl ⟨by rfl, ?_⟩) (by assumption) ?_
          rotate_left
          · intro W hSw; (try dsimp only at hSw); go_simp; first | done | with_reducible rfl
          try simp only [Act.put, lsa, lsz, lss]
          refine tkY (i := 2) (oi := .mk _ _ _ _ _ _) (v := ?_) rfl (by kernel_rfl) (fun _ _ _ h => h) (Or.inl ⟨by rfl, ?_⟩) (by assumption) ?_
          rotate_left
          · intro W hSw; (try dsimp only at hSw); go_simp; first | done | with_reducible rfl
          try simp only [Act.put, lsa, lsz, lss]
          refine tkY (i := 3) (oi := .mk _ _ _ _ _ _) (v := ?_) rfl (by kernel_rfl) (fun _ _ _ h => h) (Or.inl ⟨by rfl, ?_⟩) (by assumption) ?_
          rotate_left
          · intro W hSw; (try dsimp only at hSw); go_simp; first | done | with_reducible rfl
          try simp only [Act.put, lsa, lsz, lss]
          refine tkY (i := 4) (oi := .mk _ _ _ _ _ _) (v := ?_) rfl (by kernel_rfl) (fun _ _ _ h => h) (Or.inl ⟨by rfl, ?_⟩) (by assumption) ?_
          rotate_left
          · intro W hSw; (try dsimp only at hSw); go_simp; first | done | with_reducible rfl
          try simp only [Act.put, lsa, lsz, lss]
          refine tkY (i := 6) (oi := .mk _ _ _ _ _ _) (v := ?_) rfl (by kernel_rfl) (fun _ _ _ h => h) (Or.inl ⟨by rfl, ?_⟩) (by assumption) ?_
          rotate_left
          · intro W hSw; (try dsimp only at hSw); go_simp; first | done | with_reducible rfl
          try simp only [Act.put, lsa, lsz, lss]
          refine tkY (i := 7) (oi := .mk _ _ _ _ _ _) (v := ?_) rfl (by kernel_rfl) (fun _ _ _ h => h) (Or.inl ⟨by rfl, ?_⟩) (by assumption) ?_
          rotate_left
          · intro W hSw; (try dsimp only at hSw); go_simp; first | done | with_reducible rfl
          try simp only [Act.put, lsa, lsz, lss]
          refine tkY (i := 9) (oi := .mk _ _ _ _ _ _) (v := ?_) rfl (by kernel_rfl) (fun _ _ _ h => h) (Or.inl ⟨by rfl, ?_⟩) (by assumption) ?_
          rotate_left
          · intro W hSw; (try dsimp only at hSw); go_simp; first | done | with_reducible rfl
          try simp only [Act.put, lsa, lsz, lss]
          refine tkY (i := 10) (oi := .mk _ _ _ _ _ _) (v := ?_) rfl (by kernel_rfl) (fun _ _ _ h => h) (Or.inl ⟨by rfl, ?_⟩) (by assumption) ?_
          rotate_left
          · intro W hSw; (try dsimp only at hSw); go_simp; first | done | with_reducible rfl
          try simp only [Act.put, lsa, lsz, lss]
          refine tkY (i := 12) (oi := .mk _ _ _ _ _ _) (v := ?_) rfl (by kernel_rfl) (fun _ _ _ h => h) (Or.inl ⟨by rfl, ?_⟩) (by assumption) ?_
          rotate_left
          · intro W hSw; (try dsimp only at hSw); go_simp; first | done | with_reducible rfl
          try simp only [Act.put, lsa, lsz, lss]
          refine tkY (i := 13) (oi := .mk _ _ _ _ _ _) (v := ?_) rfl (by kernel_rfl) (fun _ _ _ h => h) (Or.inl ⟨by rfl, ?_⟩) (by assumption) ?_
          rotate_left
          · intro W hSw; (try dsimp only at hSw); go_simp; first | done | with_reducible rfl
          try simp only [Act.put, lsa, lsz, lss]
          refine wpAnyH_ready (rs := [5]) (by kernel_rfl) (by simp) (AllReadyH.cons (o := .mk _ _ _ _ _ _) rfl (fun K hK => ?_) AllReadyH.nil)
          obtain ⟨-, -, -, -, -, hh, hk0⟩ := id hHeld
          go_simp
          go_at_call 21
          refine (HF.out _ _ HI1.out hh.bel).mono ?_
          rintro e wq ⟨rfl, hq⟩
          have hq0 := HSS.out _ ⟨hh.now hq, hk0.now hq⟩
          clear hh hk0
          go_wp2_with fail
          refine hK.out _ _ ?_ (fun hHeld => ?_)
          · exact hq0
          clear hK K
          try simp only [Act.put, lsa, lsz, lss]
          clear hq0 hq
          refine wpAnyH_ready (rs := [8]) (by kernel_rfl) (by simp) (AllReadyH.cons (o := .mk _ _ _ _ _ _) rfl (fun K hK => ?_) AllReadyH.nil)
          obtain ⟨-, -, -, -, -, hh, hk0⟩ := id hHeld
          go_simp
          go_at_call 21
          refine (HF.out _ _ HI2.out hh.bel).mono ?_
          rintro e wq ⟨rfl, hq⟩
          have hq0 := HSS.out _ ⟨hh.now hq, hk0.now hq⟩
          clear hh hk0
          go_wp2_with fail
          refine hK.out _ _ ?_ (fun hHeld => ?_)
          · exact hq0
          clear hK K
          try simp only [Act.put, lsa, lsz, lss]
          clear hq0 hq
          refine wpAnyH_ready (rs := [11]) (by kernel_rfl) (by simp) (AllReadyH.cons (o := .mk _ _ _ _ _ _) rfl (fun K hK => ?_) AllReadyH.nil)
          obtain ⟨-, -, -, -, -, hh, hk0⟩ := id hHeld
          go_simp
          go_at_call 21
          refine (HF.out _ _ HI3.out hh.bel).mono ?_
          rintro e wq ⟨rfl, hq⟩
          have hq0 := HSS.out _ ⟨hh.now hq, hk0.now hq⟩
          clear hh hk0
          go_wp2_with fail
          refine hK.out _ _ ?_ (fun hHeld => ?_)
          · exact hq0
          clear hK K
          try simp only [Act.put, lsa, lsz, lss]
          clear hq0 hq
          refine wpAnyH_ready (rs := [14]) (by kernel_rfl) (by simp) (AllReadyH.cons (o := .mk _ _ _ _ _ _) rfl (fun K hK => ?_) AllReadyH.nil)
          obtain ⟨-, -, -, -, -, hh, hk0⟩ := id hHeld
          go_simp
          go_at_call 21
          refine (HF.out _ _ HI4.out hh.bel).mono ?_
          rintro e wq ⟨rfl, hq⟩
          have hq0 := HSS.out _ ⟨hh.now hq, hk0.now hq⟩
          clear hh hk0
          go_wp2_with fail
          refine hK.out _ _ ?_ (fun hHeld => ?_)
          · exact hq0
          clear hK K
          try simp only [Act.put, lsa, lsz, lss]
          obtain ⟨-, -, -, -, -, hh, hk0⟩ := id hHeld
          clear hq0 hq hHeld
          refine wpAnyH_ready (rs := [15]) (by kernel_rfl) (by simp) (AllReadyH.cons (o := .mk _ _ _ _ _ _) rfl (fun K hK => ?_) AllReadyH.nil)
          go_simp
          refine hK.out _ _ ?_ (fun hHeld => ?_)
          · exact HSS.out _ ⟨hh.alloc _, hk0.alloc _⟩
          clear hK K
          try simp only [Act.put, lsa, lsz, lss]
          refine wpAnyH_ready (rs := [16]) (by kernel_rfl) (by simp) (AllReadyH.cons (o := .mk _ _ _ _ _ _) rfl (fun K hK => ?_) AllReadyH.nil)
          go_simp
          refine hK.out _ _ ?_ (fun hHeld => ?_)
          · exact HSS.out _ ⟨(hh.alloc _).alloc _, (hk0.alloc _).alloc _⟩
          clear hK K
          try simp only [Act.put, lsa, lsz, lss]
          have hlC : LnT w ((wq.alloc (.cells #[.string { data := #[114, 111, 117, 116, 101] }, .string (bs r.r.name), .string (bs (Lib.itoa r.r.ent)), .string (bs (Lib.itoa r.r.ext)), .string (bs (Lib.itoa r.r.app)), .string (bs (Lib.itoa r.r.len))] 9)).alloc (.cells #[.slice (some ⟨wq.heap.size, 0, none⟩) 6 6] 46)) v u5 lns := (hh.alloc _).alloc _
          have hkC : Blk ((wq.alloc (.cells #[.string { data := #[114, 111, 117, 116, 101] }, .string (bs r.r.name), .string (bs (Lib.itoa r.r.ent)), .string (bs (Lib.itoa r.r.ext)), .string (bs (Lib.itoa r.r.app)), .string (bs (Lib.itoa r.r.len))] 9)).alloc (.cells #[.slice (some ⟨wq.heap.size, 0, none⟩) 6 6] 46)) wq.heap.size 9 ((rhead r.r).map fun x => Value.string (bs x)).toArray := (Blk.new wq _ _ _ rfl).alloc _
          have hkD : Blk ((wq.alloc (.cells #[.string { data := #[114, 111, 117, 116, 101] }, .string (bs r.r.name), .string (bs (Lib.itoa r.r.ent)), .string (bs (Lib.itoa r.r.ext)), .string (bs (Lib.itoa r.r.app)), .string (bs (Lib.itoa r.r.len))] 9)).alloc (.cells #[.slice (some ⟨wq.heap.size, 0, none⟩) 6 6] 46)) (wq.heap.size + 1) 46 [.slice (some ⟨wq.heap.size, 0, none⟩) 6 6].toArray := Blk.new _ _ _ _ (by simp)
          have hrdC := line_rd (T' := 46) hkC (fun x hx => by (simp only [rhead, List.mem_cons, List.not_mem_nil, or_false] at hx; rcases hx with rfl | rfl | rfl | rfl | rfl | rfl; exact Nat.le_trans (show routeW.length ≤ 6 by decide) (by unfold maxLen; omega); exact hnm; (unfold maxLen; omega); (unfold maxLen; omega); (unfold maxLen; omega); (unfold maxLen; omega))) (by decide) (by unfold maxLen; simp [rhead])
          refine wpAnyH_ready (rs := [17]) (by kernel_rfl) (by simp) (AllReadyH.cons (o := .mk _ _ _ _ _ _) rfl (fun K hK => ?_) AllReadyH.nil)
          refine step_append_r rfl _ _ 43 rfl w.heap.size 46 j0 _ 24 Tryz.underlying43 hj0 hy0 hy1 hy2 rfl (by decide) u5 lns _ rfl hlC.2 [_] (rhead r.r) hrdC (fun u hu => by (simp at hu; subst hu; rfl)) _ rfl (blk_cells hkD) (by omega) (by omega) hlC.bel.size ?_
          intro v5 w5 hown5 hold5 hf5
          have hn5 : LnT w w5 v u5 lns := ⟨hlC.1.frm HR.out hf5 (by decide), hold5.raise hf5.size (Nat.le_refl _)⟩
          have hl5 := hlC.push HR.out hown5 hf5
          have hk5 := hf5.blk ((hk0.alloc _).alloc _) (by decide)
          refine hK.out _ _ ?_ (fun hHeld => ?_)
          · exact HSS.out _ ⟨hn5, hk5⟩
          clear hK K
          try simp only [Act.put, lsa, lsz, lss]
          refine tkY (i := 18) (oi := .mk _ _ _ _ _ _) (v := ?_) rfl (by kernel_rfl) (fun _ _ _ h => h) (Or.inl ⟨by rfl, ?_⟩) (by assumption) ?_
          rotate_left
          · intro W hSw; (try dsimp only at hSw); go_simp; first | done | with_reducible rfl
          try simp only [Act.put, lsa, lsz, lss]
          refine wpAnyH_done (by kernel_rfl) ?_ _
          clear hn5 hlC hkC hkD hrdC hh hk0 hown5 hold5 hf5 HSS hHeld HI1 HI2 HI3 HI4 i1 i2 i3 i4 hla hbk hl
          have y0 := hk5.cell 0
          have y1 := hk5.cell 1
          have y2 := hk5.cell 2
          have y3 := hk5.cell 3
          have y4 := hk5.cell 4
          have y5 := hk5.cell 5
          have y6 := hk5.cell 6
          have y7 := hk5.cell 7
          have y8 := hk5.cell 8
          have y9 := hk5.cell 9
          have y10 := hk5.cell 10
          have y11 := hk5.cell 11
          have y12 := hk5.cell 12
          have y13 := hk5.cell 13
          simp only [List.getElem?_toArray, List.getElem?_cons_zero, List.getElem?_cons_succ] at y0 y1 y2 y3 y4 y5 y6 y7 y8 y9 y10 y11 y12 y13
          have HLI := Lib.hid (lists_any r w5 (E.toEnv.now hl5.bel) ((HRV.out.keep fun p hp => hl5.bel.cell hp).more fun b hb => Nat.lt_of_lt_of_le hb hl5.bel.size) HSH.out)
          go_wp2_with fail
          refine HLI.out.mono ?_
          rintro e w6 ⟨g, cs, rfl, hgz, hbg, hrl, hq6⟩
          have hl6 := hl5.now hq6
          have hne6 : ∀ b, v5.ownBlock = some b → b ≠ g := fun b hb => by have := ownBlock_lt hl5.2 b hb; omega
          have HNE := Lib.hid hne6
          clear hne6 hl5 hk5 hq6 HLI hgz y0 y1 y2 y3 y4 y5 y6 y7 y8 y9 y10 y11 y12 y13
          have hl7 : LnT w w6 v v5 ((lns ++ [rhead r.r]) ++ nineK r.r 0) := by rw [show nineK r.r 0 = [] from rfl, List.append_nil]; exact hl6
          clear hl6
          have hln2 : (lns ++ [rhead r.r]).length ≤ 700 := by rw [List.length_append, List.length_singleton]; omega
          generalize lns ++ [rhead r.r] = ln0 at *
          go_wp2_with fail
          go_loopw [5, 76] (fun s n wr => ∃ j : Nat, j ≤ 9 ∧ n = .int .i64 j ∧ LnT w wr v s (ln0 ++ nineK r.r j) ∧ Blk wr g 46 (List.toArray cs) ∧ RelL wr cs (nineL r.r) ∧ Hid (∀ b, s.ownBlock = some b → b ≠ g)) (fun _ n _ => 9 - (intOf n).toNat)
          case atStart => exact ⟨0, Nat.zero_le _, rfl, hl7, hbg, hrl, HNE⟩
          case round =>
            clear hl7 hbg hrl HNE
            obtain ⟨j, hj, rfl, hl, hbg, hrl, HNE⟩ := hrel
            by_cases hltj : j < 9
            · have hji : (j : Int) < 9 := by omega
              have hjl : j < (nineL r.r).length := hltj
              have HT3 := Lib.hid (nineK_step hjl)
              have hn9 := nineK_len r.r j
              obtain ⟨u, hu, A7, c7, hu2, hm7, hrd7⟩ := hrl.get j _ (List.getElem?_eq_getElem hjl)
              obtain rfl : u = _ := List.cons.inj hu2 |>.1
              have z0 : wr.cell? ⟨g, j, none⟩ = some (.slice A7 (nineL r.r)[j].length c7) := (hbg.cell j).trans (by rw [List.getElem?_toArray]; exact hu)
              have HRD : Hid ((cL cS).rd wr (Sep wr 46 wr.heap.size) [.slice A7 (nineL r.r)[j].length c7] (nineL r.r)[j]) := Lib.hid ⟨A7, c7, rfl, hm7, hrd7⟩
              have hlk2 : (ln0 ++ nineK r.r j).length ≤ 800 := by rw [List.length_append]; omega
              clear hu hu2 hm7 hrd7 hn9
              by_cases h1 : 1 < (nineL r.r)[j].length
              · rw [if_pos h1] at HT3
                have h1i : (1 : Int) < ((nineL r.r)[j].length : Int) := by omega
                generalize (nineL r.r)[j] = ln at *
                clear h1
                obtain ⟨acc, hacc⟩ : ∃ x, ln0 ++ nineK r.r j = x := ⟨_, rfl⟩
                rw [hacc] at hl hlk2
                have HACC := Lib.hid hacc
                clear hacc
                have hla := hl.alloc (.cells #[.slice A7 ln.length c7] 46)
                have hba := hbg.alloc (.cells #[.slice A7 ln.length c7] 46)
                have hra := hrl.now ((Below.refl _ _).alloc (Nat.le_refl _) (.cells #[.slice A7 ln.length c7] 46))
                have hbn : Blk (wr.alloc (.cells #[.slice A7 ln.length c7] 46)) wr.heap.size 46 [Value.slice A7 ln.length c7].toArray := Blk.new _ _ _ _ rfl
                have hrda := (cL cS).more ((cL cS).keep HRD.out fun p hp => ((Below.refl wr.heap.size wr).alloc (Nat.le_refl _) (.cells #[.slice A7 ln.length c7] 46)).cell hp.1) (sep_to (w := wr) (w' := wr.alloc (.cells #[.slice A7 ln.length c7] 46)) (fun b hb => Below.heap_alloc _ _ _ hb.1) (by simp))
                have hgl := hba.lt
                go_wp2_with (at_builtin; go_loud (refine wpList_append_q (c := cL cS) _ rfl _ _ 43 rfl w.heap.size 46 j0 _ 24 Tryz.underlying43 hj0 hy0 hy1 hy2 rfl (by decide) _ acc _ rfl hla.2 [_] ln hrda (fun u hu => by (simp at hu; subst hu; rfl)) ⟨_, 0, none⟩ 1 (by rfl) (fun j u hj => by (rw [own_addr]; exact blk_cells hbn j u hj)) (by omega) (by omega) hla.bel.size ?_); intro v8 w8 hq8)
                have hl8 := hla.push HR.out hq8.own hq8.frm
                have hg8 : Blk w8 g 46 (List.toArray cs) := (hq8.other hgl (fun he => HNE.out g he rfl)).trans hba
                have hr8 := hra.frm hq8.frm
                have hn8 : Hid (∀ b, v8.ownBlock = some b → b ≠ g) := Lib.hid fun b hb => by (rcases hq8.blk b hb with h | h; exact HNE.out b h; omega)
                go_roundw
                case rel => exact ⟨j + 1, by omega, by go_num, by rw [HT3.out, ← List.append_assoc, HACC.out]; exact hl8, hg8, hr8, hn8⟩
                case measure => simp [intOf]; omega
              · rw [if_neg h1, List.append_nil] at HT3
                have h1i : ¬ (1 : Int) < ((nineL r.r)[j].length : Int) := by omega
                generalize (nineL r.r)[j] = ln at *
                clear h1
                go_wp2_with fail
                go_roundw
                case rel => exact ⟨j + 1, by omega, by go_num, by rw [HT3.out]; exact hl, hbg, hrl, HNE⟩
                case measure => simp [intOf]; omega
            · obtain rfl : j = 9 := by omega
              rw [← HT.out] at hl
              have HL := Lib.hid hl
              clear hl hbg hrl
              go_wp2_with fail
              go_roundw
              case rel => exact ⟨k + 1, by omega, by go_num, HL.out⟩
              case measure => simp [intOf]; omega
        · have HE := Lib.hid (rtsK_all hlt)
          rw [HE.out] at hl
          have hB := hl.bel
          have hlen : (linesT v.t).length ≤ 2000 := by have h1 := rtsK_len v.t k hk; rw [HE.out] at h1; omega
          have hcn : cnt (linesT v.t) ≤ 100000000 := Nat.le_trans (cnt_le _ 40002 (linesT_short HSM.out)) (by omega)
          obtain ⟨tx, hj⟩ : ∃ tx, joinF (linesT v.t) = tx := ⟨_, rfl⟩
          rw [hj] at HP
          obtain ⟨A9, c9, rfl, ⟨hm9, hc9⟩, hrd9⟩ := hl.2.reads2
          have HJN := Lib.hid (joinLC (t := tx.1) (x := tx.2) hj A9 c9 wr hrd9 (by omega) hcn)
          have HER := Lib.hid (joinF_err (ls := linesT v.t) (t := tx.1) (x := tx.2) hj)
          clear hl hrd9 hj hcn HE
          generalize (linesT v.t).length = nl at *
          obtain ⟨tx, x⟩ := tx
          dsimp only at HJN HER
          go_wp2_with fail
          refine HJN.out.mono ?_
          rintro e w9 ⟨rfl, hb9⟩
          have hB9 := bel_then hB hB.size hb9
          clear hB hb9 HJN
          by_cases hx : x = 0
          · subst hx
            go_wp2_with fail
            go_ret2
            exact ⟨by rw [HP.out]; rfl, hB9⟩
          · have hxb : (x != 0) = true := by simpa using hx
            obtain rfl := HER.out hx
            clear hx
            go_wp2_with fail
            go_ret2
            exact ⟨by rw [HP.out]; rfl, hB9⟩
end Go.Proofs.YtlblfblkallnhaaGreatDoor
