/- Plain laws of trains: no program in sight. -/
import Derived.Test.YtfmfadafpbnjoaaDoorWdNum
namespace Go.Proofs.YtfmfadafpbnjoaaDoor
set_option linter.unusedVariables false
set_option linter.unusedSimpArgs false
structure Trn where
  id : Int
  name : List UInt8
  len : Int
  spd : Int
  acc : Int
  srv : Int
  emg : Int
  dly : Int
  cst : Int
  rate : Int
deriving DecidableEq
def zT : Trn := ⟨0, [], 0, 0, 0, 0, 0, 0, 0, 0⟩
def inB (n lo hi : Int) : Bool := decide (lo ≤ n) && decide (n ≤ hi)
theorem inB_iff {n lo hi : Int} : inB n lo hi = true ↔ lo ≤ n ∧ n ≤ hi := by simp [inB]
def rngA (t : Trn) : Bool := inB t.id 1 99 && (inB t.len 1 50000 && (inB t.spd 1 10000 && (inB t.acc 1 200 && inB t.srv 1 200)))
def rngB (t : Trn) : Bool := inB t.emg t.srv 200 && (inB t.dly 0 5 && (inB t.cst 0 500 && inB t.rate 0 100))
def chkF (t : Trn) : Int := if nameB t.name = false then 3 else if rngA t && rngB t then 0 else 1
theorem chk_ok {t : Trn} (h : chkF t = 0) : nameB t.name = true ∧ (1 ≤ t.id ∧ t.id ≤ 99) ∧ (1 ≤ t.len ∧ t.len ≤ 50000) ∧ (1 ≤ t.spd ∧ t.spd ≤ 10000) ∧ (1 ≤ t.acc ∧ t.acc ≤ 200) ∧ (1 ≤ t.srv ∧ t.srv ≤ 200) ∧ (t.srv ≤ t.emg ∧ t.emg ≤ 200) ∧ (0 ≤ t.dly ∧ t.dly ≤ 5) ∧ (0 ≤ t.cst ∧ t.cst ≤ 500) ∧ (0 ≤ t.rate ∧ t.rate ≤ 100) := by
  unfold chkF at h
  split at h
  · omega
  · rename_i h1
    split at h
    · rename_i h2
      simp only [rngA, rngB, Bool.and_eq_true, inB_iff] at h2
      obtain ⟨⟨a, b, c, d, e⟩, f, g, i, j⟩ := h2
      exact ⟨by simpa using h1, a, b, c, d, e, f, g, i, j⟩
    · omega
def clampF (n lo hi : Int) : Int := max lo (min n hi)
def rngT (t : Trn) : Trn := ⟨clampF t.id 1 99, t.name, clampF t.len 1 50000, clampF t.spd 1 10000, clampF t.acc 1 200, clampF t.srv 1 200, clampF t.emg t.srv 200, clampF t.dly 0 5, clampF t.cst 0 500, clampF t.rate 0 100⟩
theorem clamp_eq {n lo hi : Int} (h : lo ≤ hi) : n = clampF n lo hi ↔ lo ≤ n ∧ n ≤ hi := by unfold clampF; omega
theorem rngT_iff (t : Trn) : decide (t = rngT t) = (rngA t && rngB t) := by
  obtain ⟨a, b, c, d, e, f, g, h, i, j⟩ := t
  rw [Bool.eq_iff_iff]
  simp only [decide_eq_true_eq, rngT, Trn.mk.injEq, rngA, rngB, Bool.and_eq_true, inB_iff, true_and]
  unfold clampF
  omega
/-! ### Text -/
def trainW : List UInt8 := [116, 114, 97, 105, 110]
def restN (t : Trn) : List Int := [t.len, t.spd, t.acc, t.srv, t.emg, t.dly, t.cst, t.rate]
def wordsT (t : Trn) : List (List UInt8) := trainW :: Lib.itoa t.id :: t.name :: (restN t).map Lib.itoa
def prtT (t : Trn) : List UInt8 × Int := if chkF t = 0 then (Lib.join (wordsT t) [32], 0) else ([], chkF t)
def mkT (name : List UInt8) : List Int → Trn
  | [a, b, c, d, e, f, g, h, i] => ⟨a, name, b, c, d, e, f, g, h, i⟩
  | _ => zT
def finT (name : List UInt8) (r : List Int × Int) : Trn × Int := if r.2 = 0 then (if chkF (mkT name r.1) = 0 then (mkT name r.1, 0) else (zT, chkF (mkT name r.1))) else (zT, r.2)
def lineF (l : List (List UInt8)) : Trn × Int := if l.length = 11 ∧ l.head? = some trainW then finT (l.getD 2 []) (listK [] (l.getD 1 [] :: l.drop 3)) else (zT, 4)
def parT (s : List UInt8) : Trn × Int :=
  if (linesF (s ++ [10])).2.2 = 0 then (match (linesF (s ++ [10])).1 with
    | [l] => lineF l
    | _ => (zT, 4)) else (zT, (linesF (s ++ [10])).2.2)
theorem listK_len : ∀ (ps : List (List UInt8)) (acc a : List Int), listK acc ps = (a, 0) → a.length = acc.length + ps.length := fun ps acc a h => by
  obtain ⟨b, h1, h2, _⟩ := listK_ok ps acc a h
  rw [h1, List.length_append, ← h2, List.length_map]
theorem nine {l : List Int} (h : l.length = 9) : ∃ a b c d e f g i j, l = [a, b, c, d, e, f, g, i, j] := by
  match l, h with
  | [a, b, c, d, e, f, g, i, j], _ => exact ⟨a, b, c, d, e, f, g, i, j, rfl⟩
theorem eleven {l : List (List UInt8)} (h : l.length = 11) : ∃ a b c d e f g i j k m, l = [a, b, c, d, e, f, g, i, j, k, m] := by
  match l, h with
  | [a, b, c, d, e, f, g, i, j, k, m], _ => exact ⟨a, b, c, d, e, f, g, i, j, k, m, rfl⟩
theorem append_nl {a b : List UInt8} (h : a ++ [10] = b ++ [10]) : a = b := List.append_cancel_right h
theorem line_back {l : List (List UInt8)} {t : Trn} (h : lineF l = (t, 0)) : chkF t = 0 ∧ wordsT t = l := by
  unfold lineF at h
  split at h
  · rename_i hl
    obtain ⟨a, b, c, d, e, f, g, i, j, k, m, rfl⟩ := eleven hl.1
    have ha : a = trainW := by simpa using hl.2
    subst ha
    unfold finT at h
    split at h
    · rename_i h0
      generalize hr : listK [] ([trainW, b, c, d, e, f, g, i, j, k, m].getD 1 [] :: [trainW, b, c, d, e, f, g, i, j, k, m].drop 3) = r at h h0
      obtain ⟨ns, x⟩ := r
      simp only at h0
      subst h0
      have h9 := listK_len _ _ _ hr
      obtain ⟨n1, n2, n3, n4, n5, n6, n7, n8, n9, rfl⟩ := nine (by simpa using h9)
      obtain ⟨ls, h1, h2, _⟩ := listK_ok _ _ _ hr
      rw [List.nil_append] at h1
      subst h1
      split at h
      · rename_i hc
        simp only [Prod.mk.injEq, and_true] at h
        subst h
        refine ⟨hc, ?_⟩
        simp only [List.map_cons, List.map_nil, List.getD_cons_succ, List.getD_cons_zero, List.drop_succ_cons, List.drop_zero, List.cons.injEq, and_true] at h2
        obtain ⟨e1, e2, e3, e4, e5, e6, e7, e8, e9⟩ := h2
        simp only [wordsT, restN, mkT, List.map_cons, List.map_nil, List.getD_cons_succ, List.getD_cons_zero, e1, e2, e3, e4, e5, e6, e7, e8, e9]
      · rename_i hc
        simp only [Prod.mk.injEq] at h
        exact absurd h.2 hc
    · rename_i h0
      simp only [Prod.mk.injEq] at h
      exact absurd h.2 h0
  · simp at h
/-- What is accepted is printed like that. -/
theorem par_prt {s : List UInt8} {t : Trn} (h : parT s = (t, 0)) : prtT t = (s, 0) := by
  unfold parT at h
  split at h
  · rename_i h0
    cases hl : linesF (s ++ [10]) with
    | mk m r =>
      obtain ⟨n, x⟩ := r
      rw [hl] at h h0
      simp only at h h0
      subst h0
      obtain ⟨h1, h2, _, _⟩ := lines_ok hl
      match m, h, h2 with
      | [l], h, h2 =>
        obtain ⟨hc, hw⟩ := line_back h
        unfold prtT
        rw [if_pos hc, hw]
        have e : s = Lib.join l [32] := append_nl (by rw [h2]; simp [textOf, lineT])
        rw [e]
      | [], h, _ => simp at h
      | _ :: _ :: _, h, _ => simp at h
  · rename_i h0
    simp only [Prod.mk.injEq] at h
    exact absurd h.2 h0
theorem itoaT_len (n : Int) (h : -9223372036854775808 ≤ n ∧ n ≤ 9223372036854775807) : (Lib.itoa n).length ≤ 21 := by
  have h1 : ∀ u : Nat, u ≤ 9223372036854775808 → (Lib.decDigits u).length ≤ 20 := fun u hu => by rw [Lib.decDigits_length]; exact Lib.nDigits_le20 u (by omega)
  unfold Lib.itoa
  split
  · have := h1 n.natAbs (by omega)
    simp only [List.length_cons]
    omega
  · have := h1 n.toNat (by omega)
    omega
theorem itoa_word (n : Int) (h : -9223372036854775808 ≤ n ∧ n ≤ 9223372036854775807) : wordB (Lib.itoa n) = true := by
  obtain ⟨h1, h2, _⟩ := itoa_chars n
  have h3 := itoaT_len n h
  have h4 := List.length_pos_iff.2 h2
  unfold wordB
  simp only [Bool.and_eq_true, List.all_eq_true, decide_eq_true_eq]
  refine ⟨fun c hc => ?_, by omega, by omega⟩
  unfold chB
  rcases h1 c hc with h | h
  · have := isD_iff.1 h
    simp only [Bool.and_eq_true, decide_eq_true_eq]
    omega
  · subst h; decide
theorem name_word {s : List UInt8} (h : nameB s = true) : wordB s = true := by
  unfold nameB at h
  simp only [Bool.and_eq_true, decide_eq_true_eq] at h
  obtain ⟨⟨h1, h2⟩, _, h4⟩ := h
  unfold wordB
  simp only [Bool.and_eq_true, List.all_eq_true, decide_eq_true_eq] at h4 ⊢
  refine ⟨fun c hc => ?_, by omega, by omega⟩
  have := h4 c hc
  unfold nmB at this
  unfold chB
  simp only [Bool.or_eq_true, Bool.and_eq_true, decide_eq_true_eq] at this ⊢
  omega
theorem wordsT_good {t : Trn} (h : chkF t = 0) : goodL (wordsT t) = true := by
  obtain ⟨h0, h1, h2, h3, h4, h5, h6, h7, h8, h9⟩ := chk_ok h
  rw [goodL_iff]
  refine ⟨by simp [wordsT], fun w hw => ?_⟩
  simp only [wordsT, restN, List.map_cons, List.map_nil, List.mem_cons, List.not_mem_nil, or_false] at hw
  rcases hw with rfl | rfl | rfl | rfl | rfl | rfl | rfl | rfl | rfl | rfl | rfl
  · decide
  · exact itoa_word _ (by omega)
  · exact name_word h0
  all_goals exact itoa_word _ (by omega)
theorem joinT_len : ∀ (ws : List (List UInt8)), (∀ w ∈ ws, w.length ≤ 64) → (Lib.join ws [32]).length ≤ ws.length * 65
  | [], _ => by simp [Lib.join_nil]
  | [w], h => by
    have := h w (by simp)
    simp only [Lib.join_one, List.length_cons, List.length_nil]
    omega
  | w :: v :: r, h => by
    have h1 := joinT_len (v :: r) fun x hx => h x (by simp [hx])
    have h2 := h w (by simp)
    have e : Lib.join (w :: v :: r) [32] = w ++ ([32] ++ Lib.join (v :: r) [32]) := by unfold Lib.join; simp [List.intercalate]
    rw [e]
    simp only [List.length_append, List.length_cons, List.length_nil] at h1 ⊢
    omega
/-- What is printed is accepted. -/
theorem prt_par {t : Trn} (h : chkF t = 0) : parT (Lib.join (wordsT t) [32]) = (t, 0) ∧ (Lib.join (wordsT t) [32]).length ≤ 715 := by
  have hg := wordsT_good h
  have hlen : (Lib.join (wordsT t) [32]).length ≤ 715 := by
    have := joinT_len (wordsT t) fun w hw => (wordB_len ((goodL_iff.1 hg).2 w hw)).2
    have e : (wordsT t).length = 11 := rfl
    omega
  have e : Lib.join (wordsT t) [32] ++ [10] = textOf [wordsT t] := by simp [textOf, lineT]
  have hj : joinF [wordsT t] = (textOf [wordsT t], 0) := by
    unfold joinF
    rw [if_pos (by simp [hg]), if_neg (by rw [← e]; simp; omega)]
  have hl := lines_join hj
  refine ⟨?_, hlen⟩
  obtain ⟨h0, h1, h2, h3, h4, h5, h6, h7, h8, h9⟩ := chk_ok h
  unfold parT
  rw [e, hl, if_pos rfl]
  show lineF (wordsT t) = (t, 0)
  unfold lineF
  rw [if_pos ⟨rfl, rfl⟩]
  have hk : listK [] ((wordsT t).getD 1 [] :: (wordsT t).drop 3) = (t.id :: restN t, 0) := by
    have := listK_itoa (t.id :: restN t) [] (fun n hn => by
      simp only [restN, List.mem_cons, List.not_mem_nil, or_false] at hn
      rcases hn with rfl | rfl | rfl | rfl | rfl | rfl | rfl | rfl | rfl <;> omega)
    exact this
  have hm : mkT ((wordsT t).getD 2 []) (t.id :: restN t) = t := rfl
  rw [hk]
  unfold finT
  rw [if_pos rfl, hm, if_pos h]
/-! ### Measures -/
def errT (t : Trn) (m : Int) : Int := if m ≤ 0 then 0 else t.cst + (min m 1073741824 * t.rate) / 1000
def effF (dec grade : Int) : Int := max (clampF dec 0 200 + (981 * clampF grade (-1000) 1000) / 1000) 0
structure Sgm where
  fr : Int
  to : Int
  grd : Int
  spd : Int
deriving DecidableEq
def okS (x : Sgm) : Bool := inB x.fr (-1073741824) 1073741824 && (inB x.to (-1073741824) 1073741824 && (decide (x.fr < x.to) && (inB x.grd (-50) 50 && inB x.spd 1 10000)))
def chainB (o : Option Int) : List Sgm → Bool
  | [] => true
  | x :: r => okS x && ((match o with
    | none => true
    | some e => decide (e = x.fr)) && chainB (some x.to) r)
def validB (p : List Sgm) : Bool := decide (p.length ≤ 128) && chainB none p
def touB (f t : Int) (x : Sgm) : Bool := decide (x.fr ≤ t) && decide (f ≤ x.to)
def leastG (o : Option Int) : List Sgm → Option Int
  | [] => o
  | x :: r => leastG (match o with
    | none => some x.grd
    | some e => some (if x.grd < e then x.grd else e)) r
def steepF (p : List Sgm) (f t : Int) : Int := if validB p then (leastG none (p.filter (touB f t))).getD 0 else 0
def weakF (t : Trn) (p : List Sgm) (f to : Int) : Int := effF t.emg (steepF p f to)
theorem leastG_le : ∀ (l : List Sgm) (o : Option Int), (∀ e, o = some e → ∃ v, leastG o l = some v ∧ v ≤ e) ∧ (∀ x ∈ l, ∃ v, leastG o l = some v ∧ v ≤ x.grd)
  | [], o => ⟨fun e h => ⟨e, h, Int.le_refl _⟩, fun x hx => by simp at hx⟩
  | y :: r, o => by
    cases o with
    | none =>
      rw [leastG]
      obtain ⟨h1, h2⟩ := leastG_le r (some y.grd)
      refine ⟨fun e h => (by cases h), fun x hx => ?_⟩
      rcases List.mem_cons.1 hx with rfl | hx
      · exact h1 _ rfl
      · exact h2 x hx
    | some e =>
      rw [leastG]
      obtain ⟨h1, h2⟩ := leastG_le r (some (if y.grd < e then y.grd else e))
      obtain ⟨v, hv, hle⟩ := h1 _ rfl
      refine ⟨fun e' he => ?_, fun x hx => ?_⟩
      · cases he
        refine ⟨v, hv, ?_⟩
        split at hle <;> omega
      · rcases List.mem_cons.1 hx with rfl | hx
        · refine ⟨v, hv, ?_⟩
          split at hle <;> omega
        · exact h2 x hx
theorem leastG_mem : ∀ (l : List Sgm) (o : Option Int) (v : Int), leastG o l = some v → o = some v ∨ ∃ x ∈ l, x.grd = v
  | [], o, v, h => .inl h
  | y :: r, o, v, h => by
    cases o with
    | none =>
      rw [leastG] at h
      rcases leastG_mem r _ v h with h1 | ⟨x, hx, he⟩
      · exact .inr ⟨y, by simp, by simpa using h1⟩
      · exact .inr ⟨x, by simp [hx], he⟩
    | some e =>
      rw [leastG] at h
      rcases leastG_mem r _ v h with h1 | ⟨x, hx, he⟩
      · simp only [Option.some.injEq] at h1
        split at h1
        · exact .inr ⟨y, by simp, h1⟩
        · exact .inl (by rw [h1])
      · exact .inr ⟨x, by simp [hx], he⟩
theorem effF_mono {d a b : Int} (h : a ≤ b) : effF d a ≤ effF d b := by unfold effF clampF; omega
theorem effF_nn (d g : Int) : 0 ≤ effF d g := by unfold effF; omega
/-- Each touched part bounds the least. -/
theorem steep_le {p : List Sgm} {f t : Int} {x : Sgm} (hv : validB p = true) (hx : x ∈ p) (ht : touB f t x = true) : steepF p f t ≤ x.grd := by
  unfold steepF
  rw [if_pos hv]
  obtain ⟨v, hv, hle⟩ := (leastG_le (p.filter (touB f t)) none).2 x (List.mem_filter.2 ⟨hx, ht⟩)
  rw [hv]
  exact hle
/-- A part within has no steeper fall. -/
theorem steep_sub {p : List Sgm} {f t a b : Int} (hv : validB p = true) (h1 : f ≤ a) (h2 : b ≤ t) (hs : ∃ x ∈ p, touB a b x = true) : steepF p f t ≤ steepF p a b := by
  obtain ⟨x, hx, ht⟩ := hs
  have e : steepF p a b = (leastG none (p.filter (touB a b))).getD 0 := by unfold steepF; rw [if_pos hv]
  obtain ⟨v, hv2, _⟩ := (leastG_le (p.filter (touB a b)) none).2 x (List.mem_filter.2 ⟨hx, ht⟩)
  rw [e, hv2]
  show steepF p f t ≤ v
  rcases leastG_mem _ _ _ hv2 with h | ⟨y, hy, hg⟩
  · cases h
  · have hy2 := List.mem_filter.1 hy
    rw [← hg]
    refine steep_le hv hy2.1 ?_
    have := hy2.2
    simp only [touB, Bool.and_eq_true, decide_eq_true_eq] at this ⊢
    omega
theorem err_mono {t : Trn} (h : chkF t = 0) {a b : Int} (ha : 0 ≤ a) (hb : 0 ≤ b) (ha2 : a ≤ 536870912) (hb2 : b ≤ 536870912) : errT t a ≤ errT t (a + b) ∧ errT t b ≤ errT t (a + b) ∧ errT t (a + b) ≤ errT t a + errT t b + 1 ∧ 0 ≤ errT t a := by
  obtain ⟨_, _, _, _, _, _, _, _, hc, hr⟩ := chk_ok h
  have e1 : min a 1073741824 = a := by omega
  have e2 : min b 1073741824 = b := by omega
  have e3 : min (a + b) 1073741824 = a + b := by omega
  unfold errT
  rw [e1, e2, e3, Int.add_mul]
  have pa : 0 ≤ a * t.rate := Int.mul_nonneg ha hr.1
  have pb : 0 ≤ b * t.rate := Int.mul_nonneg hb hr.1
  generalize hx : a * t.rate = x at pa
  generalize hy : b * t.rate = y at pb
  by_cases h1 : a ≤ 0
  · obtain rfl : a = 0 := by omega
    rw [Int.zero_mul] at hx
    subst hx
    by_cases h2 : b ≤ 0
    · obtain rfl : b = 0 := by omega
      simp
    · rw [if_pos h1, if_neg h2, if_neg (by omega)]
      omega
  · by_cases h2 : b ≤ 0
    · obtain rfl : b = 0 := by omega
      rw [Int.zero_mul] at hy
      subst hy
      rw [if_neg h1, if_pos h2, if_neg (by omega)]
      omega
    · rw [if_neg h1, if_neg h2, if_neg (by omega)]
      omega
end Go.Proofs.YtfmfadafpbnjoaaDoor
