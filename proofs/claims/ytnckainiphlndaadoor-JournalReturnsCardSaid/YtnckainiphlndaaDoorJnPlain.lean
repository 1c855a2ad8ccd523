/- Plain laws of journals: no program in sight. -/
import Derived.Test.YtnckainiphlndaaDoorWdNum
import Derived.Test.YtnckainiphlndaaDoorCrcPlain
namespace Go.Proofs.YtnckainiphlndaaDoor
set_option linter.unusedVariables false
set_option linter.unusedSimpArgs false
structure Ent where
  time : Int
  text : List UInt8
  sum : Nat
deriving DecidableEq
def prB (c : UInt8) : Bool := decide (32 ≤ c.toNat) && decide (c.toNat ≤ 126)
def legB (l : List UInt8) : Bool := (decide (1 ≤ l.length) && decide (l.length ≤ 2000)) && l.all prB
def tmB (t : Int) : Bool := decide (0 ≤ t) && decide (t ≤ 1073741824)
theorem tmB_iff {t : Int} : tmB t = true ↔ 0 ≤ t ∧ t ≤ 1073741824 := by simp [tmB]
theorem legB_iff {l : List UInt8} : legB l = true ↔ (1 ≤ l.length ∧ l.length ≤ 2000) ∧ ∀ c ∈ l, prB c = true := by simp [legB]
def dgst (b : Nat) (t : Int) (s : List UInt8) : Nat := Crc.chain b (Lib.itoa t ++ 32 :: s)
theorem dgst_lt (b : Nat) (t : Int) (s : List UInt8) : dgst b t s < 18446744073709551616 := Crc.chain_lt _ _
def lastD (pt : Int) (j : List Ent) : Int := (j.getLast?.map Ent.time).getD pt
def lastS (ps : Nat) (j : List Ent) : Nat := (j.getLast?.map Ent.sum).getD ps
def lastT (j : List Ent) : Int := lastD 0 j
def sumF (j : List Ent) : Nat := lastS 0 j
theorem lastD_snoc (pt : Int) (l : List Ent) (x : Ent) : lastD pt (l ++ [x]) = x.time := by simp [lastD]
theorem lastS_snoc (ps : Nat) (l : List Ent) (x : Ent) : lastS ps (l ++ [x]) = x.sum := by simp [lastS]
theorem lastD_cons (pt : Int) (x : Ent) (r : List Ent) : lastD pt (x :: r) = lastD x.time r := by
  cases r with
  | nil => rfl
  | cons y r => unfold lastD; rw [List.getLast?_cons_cons]; simp [List.getLast?_cons]
theorem lastS_cons (ps : Nat) (x : Ent) (r : List Ent) : lastS ps (x :: r) = lastS x.sum r := by
  cases r with
  | nil => rfl
  | cons y r => unfold lastS; rw [List.getLast?_cons_cons]; simp [List.getLast?_cons]
theorem lastT_at (j : List Ent) (k : Nat) (h : k < j.length) : lastT (j.take (k + 1)) = j[k].time := by rw [List.take_succ_eq_append_getElem h]; exact lastD_snoc _ _ _
theorem sumF_at (j : List Ent) (k : Nat) (h : k < j.length) : sumF (j.take (k + 1)) = j[k].sum := by rw [List.take_succ_eq_append_getElem h]; exact lastS_snoc _ _ _
/-- Whether the entry x fits at place k behind an entry of time pt and sum ps. -/
def goodE (k : Nat) (pt : Int) (ps : Nat) (x : Ent) : Bool :=
  (decide (k ≠ 512) && (tmB x.time && decide (pt ≤ x.time))) && (legB x.text && decide (x.sum = dgst ps x.time x.text))
theorem goodE_iff {k : Nat} {pt : Int} {ps : Nat} {x : Ent} : goodE k pt ps x = true ↔ (k ≠ 512 ∧ tmB x.time = true ∧ pt ≤ x.time) ∧ legB x.text = true ∧ x.sum = dgst ps x.time x.text := by simp [goodE, and_assoc]
def verG (k : Nat) (pt : Int) (ps : Nat) : List Ent → Int
  | [] => -1
  | x :: r => if goodE k pt ps x then verG (k + 1) x.time x.sum r else k
def verF (j : List Ent) : Int := verG 0 0 0 j
theorem verG_at (j : List Ent) (k : Nat) (h : k < j.length) : verG k (lastT (j.take k)) (sumF (j.take k)) (j.drop k) = if goodE k (lastT (j.take k)) (sumF (j.take k)) j[k] then verG (k + 1) (lastT (j.take (k + 1))) (sumF (j.take (k + 1))) (j.drop (k + 1)) else k := by
  rw [List.drop_eq_getElem_cons h, verG, lastT_at j k h, sumF_at j k h]
theorem verG_ge : ∀ (l : List Ent) (k : Nat) (pt : Int) (ps : Nat), verG k pt ps l = -1 ∨ ((k : Int) ≤ verG k pt ps l ∧ verG k pt ps l < k + l.length)
  | [], _, _, _ => .inl rfl
  | x :: r, k, pt, ps => by
    rw [verG]
    split
    · rcases verG_ge r (k + 1) x.time x.sum with h | ⟨h1, h2⟩
      · exact .inl h
      · right
        simp only [List.length_cons]
        omega
    · right
      simp only [List.length_cons]
      omega
theorem verG_append (m : List Ent) : ∀ (l : List Ent) (k : Nat) (pt : Int) (ps : Nat), verG k pt ps (l ++ m) = if verG k pt ps l = -1 then verG (k + l.length) (lastD pt l) (lastS ps l) m else verG k pt ps l
  | [], k, pt, ps => by rw [List.nil_append, verG, if_pos rfl]; rfl
  | x :: r, k, pt, ps => by
    rw [List.cons_append, verG, verG]
    split
    · rw [verG_append m r (k + 1) x.time x.sum, lastD_cons, lastS_cons, List.length_cons, show k + 1 + r.length = k + (r.length + 1) by omega]
    · rw [if_neg (by omega)]
theorem verG_left {l m : List Ent} {k : Nat} {pt : Int} {ps : Nat} (h : verG k pt ps (l ++ m) = -1) : verG k pt ps l = -1 ∧ verG (k + l.length) (lastD pt l) (lastS ps l) m = -1 := by
  rw [verG_append] at h
  split at h
  · rename_i h1; exact ⟨h1, h⟩
  · rename_i h1; exact absurd h h1
theorem verG_len : ∀ (l : List Ent) (k : Nat) (pt : Int) (ps : Nat), verG k pt ps l = -1 → k ≤ 512 → k + l.length ≤ 512
  | [], k, _, _, _, h => by simpa using h
  | x :: r, k, pt, ps, h, hk => by
    rw [verG] at h
    split at h
    · rename_i hg
      have := (goodE_iff.1 hg).1.1
      have := verG_len r (k + 1) _ _ h (by omega)
      simp only [List.length_cons]
      omega
    · omega
theorem verG_shift : ∀ (l : List Ent) (k : Nat) (pt : Int) (ps : Nat), verG (k + 1) pt ps l = -1 → k + l.length ≤ 512 → verG k pt ps l = -1
  | [], _, _, _, _, _ => rfl
  | x :: r, k, pt, ps, h, hk => by
    rw [verG] at h ⊢
    simp only [List.length_cons] at hk
    split at h
    · rename_i hg
      have hg := goodE_iff.1 hg
      rw [if_pos (goodE_iff.2 ⟨⟨by omega, hg.1.2⟩, hg.2⟩)]
      exact verG_shift r (k + 1) _ _ h (by omega)
    · omega
/-- What a right entry is, wherever it stands. -/
def okX (x : Ent) : Prop := tmB x.time = true ∧ legB x.text = true ∧ x.sum < 18446744073709551616
theorem verG_ok : ∀ (l : List Ent) (k : Nat) (pt : Int) (ps : Nat), verG k pt ps l = -1 → ∀ x ∈ l, okX x
  | [], _, _, _, _ => fun x hx => by simp at hx
  | y :: r, k, pt, ps, h => by
    rw [verG] at h
    split at h
    · rename_i hg
      have hg := goodE_iff.1 hg
      intro x hx
      rcases List.mem_cons.1 hx with rfl | hx
      · exact ⟨hg.1.2.1, hg.2.1, by rw [hg.2.2]; exact dgst_lt _ _ _⟩
      · exact verG_ok r _ _ _ h x hx
    · omega
/-! ### Append -/
def appF (j : List Ent) (t : Int) (s : List UInt8) : List Ent × Int :=
  if (tmB t && legB s) = false then ([], 1) else if 0 < j.length ∧ t < lastT j then ([], 7) else if 512 ≤ j.length then ([], 16) else (j ++ [⟨t, s, dgst (sumF j) t s⟩], 0)
theorem appF_ok {j a : List Ent} {t : Int} {s : List UInt8} (h : appF j t s = (a, 0)) : a = j ++ [⟨t, s, dgst (sumF j) t s⟩] ∧ tmB t = true ∧ legB s = true ∧ lastT j ≤ t ∧ j.length < 512 := by
  unfold appF at h
  split at h
  · simp at h
  · rename_i h1
    split at h
    · simp at h
    · rename_i h2
      split at h
      · simp at h
      · rename_i h3
        simp only [Bool.not_eq_false, Bool.and_eq_true] at h1
        refine ⟨(Prod.mk.inj h).1.symm, h1.1, h1.2, ?_, by omega⟩
        by_cases h0 : 0 < j.length
        · omega
        · obtain rfl : j = [] := List.eq_nil_of_length_eq_zero (by omega)
          exact (tmB_iff.1 h1.1).1
theorem appF_none {j : List Ent} {t : Int} {s : List UInt8} (h : (appF j t s).2 ≠ 0) : (appF j t s).1 = [] := by
  unfold appF at h ⊢
  split
  · rfl
  · split
    · rfl
    · split
      · rfl
      · rename_i h1 h2 h3
        rw [if_neg h1, if_neg h2, if_neg h3] at h
        exact absurd rfl h
theorem appF_good {j a : List Ent} {t : Int} {s : List UInt8} (h : appF j t s = (a, 0)) (hv : verF j = -1) : verF a = -1 := by
  obtain ⟨rfl, h1, h2, h3, h4⟩ := appF_ok h
  unfold verF at hv ⊢
  have hg : goodE (0 + j.length) (lastD 0 j) (lastS 0 j) ⟨t, s, dgst (sumF j) t s⟩ = true := by
    have e : sumF j = lastS 0 j := by unfold sumF; rfl
    rw [e]
    exact goodE_iff.2 ⟨⟨by omega, h1, h3⟩, h2, by generalize dgst (lastS 0 j) t s = d; rfl⟩
  rw [verG_append, if_pos hv, verG, if_pos hg]
  rfl
/-! ### A short journal -/
def totT (j : List Ent) : Nat := (j.map fun x => x.text.length).sum
def fewB (j : List Ent) : Bool := decide (j.length ≤ 600) && decide (totT j ≤ 40000)
theorem totT_snoc (l : List Ent) (x : Ent) : totT (l ++ [x]) = totT l + x.text.length := by simp [totT]
theorem totT_nil : totT [] = 0 := rfl
theorem totT_bound {m : Nat} : ∀ (l : List Ent), (∀ x ∈ l, x.text.length ≤ m) → totT l ≤ l.length * m
  | [], _ => by simp [totT]
  | x :: r, h => by
    have h1 := totT_bound r fun y hy => h y (by simp [hy])
    have h2 := h x (by simp)
    simp only [totT, List.map_cons, List.sum_cons, List.length_cons] at h1 ⊢
    rw [Nat.succ_mul]
    omega
theorem totT_take (l : List Ent) (k : Nat) : totT (l.take k) ≤ totT l := by
  have h : totT (l.take k ++ l.drop k) = totT (l.take k) + totT (l.drop k) := by unfold totT; rw [List.map_append, List.sum_append]
  rw [List.take_append_drop] at h
  omega
theorem totT_mem {l : List Ent} {x : Ent} (h : x ∈ l) : x.text.length ≤ totT l := by
  induction l with
  | nil => simp at h
  | cons y r ih =>
    simp only [totT, List.map_cons, List.sum_cons] at ih ⊢
    rcases List.mem_cons.1 h with rfl | h
    · omega
    · have := ih h; omega
/-! ### Text -/
def lineL (x : Ent) : List UInt8 := Lib.itoa x.time ++ 32 :: (Crc.hex x.sum ++ 32 :: x.text)
def lineE (x : Ent) : List UInt8 := lineL x ++ [10]
def textJ (j : List Ent) : List UInt8 := (j.map lineE).flatten
def prtF (j : List Ent) : List UInt8 × Int := if verF j = -1 then (textJ j, 0) else ([], 1)
theorem textJ_snoc (l : List Ent) (x : Ent) : textJ (l ++ [x]) = textJ l ++ lineE x := by simp [textJ]
def hxd (c : UInt8) : Option Nat := if 48 ≤ c.toNat ∧ c.toNat ≤ 57 then some (c.toNat - 48) else if 97 ≤ c.toNat ∧ c.toNat ≤ 102 then some (c.toNat - 87) else none
def hexV (a : Nat) : List UInt8 → Option Nat
  | [] => some a
  | c :: r => match hxd c with
    | some d => hexV (a * 16 + d) r
    | none => none
theorem hexV_append (m : List UInt8) : ∀ (l : List UInt8) (a : Nat), hexV a (l ++ m) = (hexV a l).bind fun b => hexV b m
  | [], _ => rfl
  | c :: r, a => by
    rw [List.cons_append, hexV, hexV]
    cases hxd c with
    | none => rfl
    | some d => exact hexV_append m r _
theorem hxd_dig : ∀ d, d < 16 → hxd (Crc.dig d) = some d := by decide
theorem hxd_some {c : UInt8} {d : Nat} (h : hxd c = some d) : d < 16 ∧ Crc.dig d = c := by
  have key : ∀ n, n < 256 → ∀ d, d < 16 → hxd (UInt8.ofNat n) = some d → Crc.dig d = UInt8.ofNat n := by decide +kernel
  have hlt : d < 16 := by
    unfold hxd at h
    split at h
    · simp at h; omega
    · split at h
      · simp at h; omega
      · cases h
  have e : UInt8.ofNat c.toNat = c := by simp
  exact ⟨hlt, by rw [← e] at h ⊢; exact key _ (Crc.u8_lt c) d hlt h⟩
theorem hexF_succ (k h : Nat) : Crc.hexF (k + 1) h [] = Crc.hexF k (h / 16) [] ++ [Crc.dig (h % 16)] := by
  rw [Crc.hexF, Crc.hexF_acc]
theorem hexV_hex : ∀ (k a h : Nat), hexV a (Crc.hexF k h []) = some (a * 16 ^ k + h % 16 ^ k)
  | 0, a, h => by simp [Crc.hexF, hexV, Nat.mod_one]
  | k + 1, a, h => by
    have e1 : ∀ b, hexV b [Crc.dig (h % 16)] = some (b * 16 + h % 16) := fun b => by simp only [hexV, hxd_dig _ (Nat.mod_lt h (by omega))]
    rw [hexF_succ, hexV_append, hexV_hex k a (h / 16), Option.bind_some, e1]
    rw [Nat.pow_succ, Nat.mul_comm (16 ^ k) 16, Nat.mod_mul, ← Nat.mul_assoc, Nat.add_mul, Nat.mul_right_comm, Nat.mul_comm a 16, Nat.mul_comm (h / 16 % 16 ^ k) 16]
    congr 1
    omega
theorem hexV_sum {n : Nat} (h : n < 18446744073709551616) : hexV 0 (Crc.hex n) = some n := by
  unfold Crc.hex
  rw [hexV_hex, Nat.zero_mul, Nat.zero_add, Nat.mod_eq_of_lt (by simpa using h)]
theorem hexV_back : ∀ (k : Nat) (l : List UInt8) (v : Nat), l.length = k → hexV 0 l = some v → v < 16 ^ k ∧ Crc.hexF k v [] = l
  | 0, l, v, hl, h => by
    obtain rfl := List.eq_nil_of_length_eq_zero hl
    simp [hexV] at h
    subst h
    exact ⟨by simp, rfl⟩
  | k + 1, l, v, hl, h => by
    have hk : k < l.length := by omega
    have e : l = l.take k ++ [l[k]] := by rw [← List.take_succ_eq_append_getElem hk, List.take_of_length_le (by omega)]
    rw [e, hexV_append, Option.bind_eq_some_iff] at h
    obtain ⟨b, h1, h2⟩ := h
    obtain ⟨h3, h4⟩ := hexV_back k _ b (by rw [List.length_take]; omega) h1
    cases hd : hxd l[k] with
    | none => simp [hexV, hd] at h2
    | some d =>
      simp only [hexV, hd, Option.some.injEq] at h2
      obtain ⟨h5, h6⟩ := hxd_some hd
      subst h2
      refine ⟨by rw [Nat.pow_succ]; omega, ?_⟩
      rw [hexF_succ, show (b * 16 + d) / 16 = b by omega, show (b * 16 + d) % 16 = d by omega, h4, h6, ← e]
theorem hex_back {l : List UInt8} {v : Nat} (hl : l.length = 16) (h : hexV 0 l = some v) : v < 18446744073709551616 ∧ Crc.hex v = l := by
  have := hexV_back 16 l v hl h
  exact ⟨by simpa using this.1, this.2⟩
/-- The entry with a line. -/
def entF (l : List UInt8) : Option Ent :=
  if (Lib.cut l [32]).2.2 = true ∧ (intF (Lib.cut l [32]).1).2 = 0 ∧ tmB (intF (Lib.cut l [32]).1).1 = true ∧ (Lib.cut (Lib.cut l [32]).2.1 [32]).2.2 = true ∧ (Lib.cut (Lib.cut l [32]).2.1 [32]).1.length = 16 ∧ legB (Lib.cut (Lib.cut l [32]).2.1 [32]).2.1 = true
  then (hexV 0 (Lib.cut (Lib.cut l [32]).2.1 [32]).1).map fun v => ⟨(intF (Lib.cut l [32]).1).1, (Lib.cut (Lib.cut l [32]).2.1 [32]).2.1, v⟩ else none
theorem entF_no {l : List UInt8} (h : (32 : UInt8) ∉ l) : entF l = none := by
  unfold entF
  rw [if_neg]
  rw [cut_no h]
  simp
theorem entF_one {a b : List UInt8} (ha : (32 : UInt8) ∉ a) (hb : (32 : UInt8) ∉ b) : entF (a ++ 32 :: b) = none := by
  unfold entF
  rw [cut_at ha, cut_no hb]
  simp
theorem entF_two {a b c : List UInt8} (ha : (32 : UInt8) ∉ a) (hb : (32 : UInt8) ∉ b) : entF (a ++ 32 :: (b ++ 32 :: c)) =
    if (intF a).2 = 0 ∧ tmB (intF a).1 = true ∧ b.length = 16 ∧ legB c = true then (hexV 0 b).map fun v => ⟨(intF a).1, c, v⟩ else none := by
  unfold entF
  rw [cut_at ha, cut_at hb]
  simp
theorem dig_ne32 (l : List UInt8) (k : Nat) (h : l.length = k) : ∀ v, Crc.hexF k v [] = l → (32 : UInt8) ∉ l ∧ (10 : UInt8) ∉ l := by
  induction k generalizing l with
  | zero => intro v _; obtain rfl := List.eq_nil_of_length_eq_zero h; simp
  | succ k ih =>
    intro v hv
    rw [hexF_succ] at hv
    have h1 := ih (Crc.hexF k (v / 16) []) (Crc.hexF_length _ _) (v / 16) rfl
    have h2 : ∀ d, d < 16 → (32 : UInt8) ≠ Crc.dig d ∧ (10 : UInt8) ≠ Crc.dig d := by decide
    have h3 := h2 (v % 16) (by omega)
    rw [← hv]
    simp only [List.mem_append, List.mem_singleton, not_or]
    exact ⟨⟨h1.1, h3.1⟩, ⟨h1.2, h3.2⟩⟩
theorem hex_no (v : Nat) : (32 : UInt8) ∉ Crc.hex v ∧ (10 : UInt8) ∉ Crc.hex v := dig_ne32 (Crc.hex v) 16 (Crc.hex_length v) v rfl
theorem leg_no10 {l : List UInt8} (h : legB l = true) : (10 : UInt8) ∉ l := fun hm => by
  have := (legB_iff.1 h).2 _ hm
  revert this
  decide
theorem tm_i64 {t : Int} (h : tmB t = true) : -9223372036854775808 ≤ t ∧ t ≤ 9223372036854775807 := by have := tmB_iff.1 h; omega
theorem entF_line {x : Ent} (h : okX x) : entF (lineL x) = some x ∧ (10 : UInt8) ∉ lineL x := by
  obtain ⟨h1, h2, h3⟩ := h
  have hb := tm_i64 h1
  have hi := int_itoa x.time hb.1 hb.2
  constructor
  · unfold lineL
    rw [entF_two (itoa_no _ _ (by decide) (by decide)) (hex_no _).1, hi, if_pos ⟨rfl, h1, Crc.hex_length _, h2⟩, hexV_sum h3]
    rfl
  · unfold lineL
    simp only [List.mem_append, List.mem_cons, not_or]
    exact ⟨itoa_no _ _ (by decide) (by decide), by decide, (hex_no _).2, by decide, leg_no10 h2⟩
theorem line_entF {l : List UInt8} {x : Ent} (h : entF l = some x) : l = lineL x ∧ okX x := by
  rcases at_or 32 l with h1 | ⟨a, r, rfl, h1⟩
  · rw [entF_no h1] at h; cases h
  · rcases at_or 32 r with h2 | ⟨b, c, rfl, h2⟩
    · rw [entF_one h1 h2] at h; cases h
    · rw [entF_two h1 h2] at h
      split at h
      · rename_i hg
        obtain ⟨g1, g2, g3, g4⟩ := hg
        rw [Option.map_eq_some_iff] at h
        obtain ⟨v, hv, rfl⟩ := h
        obtain ⟨hlt, hx⟩ := hex_back g3 hv
        have hi := itoa_int (s := a) (n := (intF a).1) (by rw [← g1])
        refine ⟨?_, g2, g4, hlt⟩
        unfold lineL
        rw [hi.1, hx]
      · cases h
/-! ### Parse -/
def scanJ (acc : List Ent) (cur : List UInt8) : List UInt8 → List Ent × Nat × Int
  | [] => if cur = [] then (acc, 0, 0) else ([], acc.length + 1, 4)
  | c :: r => if c = 10 then (match entF cur with
    | some x => scanJ (acc ++ [x]) [] r
    | none => ([], acc.length + 1, 4)) else scanJ acc (cur ++ [c]) r
def parF (s : List UInt8) : List Ent × Nat × Int :=
  if (scanJ [] [] s).2.2 = 0 then (if verF (scanJ [] [] s).1 = -1 then ((scanJ [] [] s).1, 0, 0) else ([], (verF (scanJ [] [] s).1 + 1).toNat, 6)) else ([], (scanJ [] [] s).2.1, 4)
theorem scanJ_cut (acc : List Ent) (b : List UInt8) : ∀ (a cur : List UInt8), (10 : UInt8) ∉ a → scanJ acc cur (a ++ 10 :: b) = match entF (cur ++ a) with
    | some x => scanJ (acc ++ [x]) [] b
    | none => ([], acc.length + 1, 4)
  | [], cur, _ => by rw [List.nil_append, scanJ, if_pos rfl, List.append_nil]
  | c :: a, cur, h => by
    simp only [List.mem_cons, not_or] at h
    rw [List.cons_append, scanJ, if_neg (fun e => h.1 e.symm), scanJ_cut acc b a _ h.2, List.append_assoc]
    rfl
theorem scanJ_end (acc : List Ent) : ∀ (a cur : List UInt8), (10 : UInt8) ∉ a → scanJ acc cur a = if cur ++ a = [] then (acc, 0, 0) else ([], acc.length + 1, 4)
  | [], cur, _ => by rw [List.append_nil, scanJ]
  | c :: a, cur, h => by
    simp only [List.mem_cons, not_or] at h
    rw [scanJ, if_neg (fun e => h.1 e.symm), scanJ_end acc a _ h.2, List.append_assoc]
    rfl
theorem scanJ_ok : ∀ (k : Nat) (s : List UInt8) (acc m : List Ent) (n : Nat), s.length ≤ k → scanJ acc [] s = (m, n, 0) → ∃ ls, m = acc ++ ls ∧ s = textJ ls ∧ n = 0 ∧ ∀ x ∈ ls, okX x
  | k, s, acc, m, n, hl, h => by
    rcases at_or 10 s with h1 | ⟨a, b, rfl, h1⟩
    · rw [scanJ_end acc s [] h1, List.nil_append] at h
      split at h
      · rename_i hs
        subst hs
        simp only [Prod.mk.injEq] at h
        exact ⟨[], by rw [List.append_nil]; exact h.1.symm, rfl, h.2.1.symm, fun x hx => by simp at hx⟩
      · simp at h
    · match k, hl with
      | 0, hl => simp at hl
      | k + 1, hl =>
        rw [scanJ_cut acc b a [] h1, List.nil_append] at h
        cases he : entF a with
        | none => rw [he] at h; simp at h
        | some x =>
          rw [he] at h
          obtain ⟨hx1, hx2⟩ := line_entF he
          obtain ⟨ls, e1, e2, e3, e4⟩ := scanJ_ok k b _ m n (by simp at hl; omega) h
          refine ⟨x :: ls, by rw [e1, List.append_assoc]; rfl, ?_, e3, fun y hy => ?_⟩
          · rw [e2, hx1]
            simp [textJ, lineE]
          · rcases List.mem_cons.1 hy with rfl | hy
            · exact hx2
            · exact e4 y hy
theorem scanJ_text : ∀ (ls acc : List Ent), (∀ x ∈ ls, okX x) → scanJ acc [] (textJ ls) = (acc ++ ls, 0, 0)
  | [], acc, _ => by simp [textJ, scanJ]
  | x :: ls, acc, h => by
    have hx := entF_line (h x (by simp))
    have e : textJ (x :: ls) = lineL x ++ 10 :: textJ ls := by simp [textJ, lineE]
    rw [e, scanJ_cut acc _ _ _ hx.2, List.nil_append, hx.1]
    show scanJ (acc ++ [x]) [] (textJ ls) = _
    rw [scanJ_text ls _ fun y hy => h y (by simp [hy])]
    simp
/-- What is accepted is printed like that. -/
theorem par_prt {s : List UInt8} {j : List Ent} {n : Nat} (h : parF s = (j, n, 0)) : prtF j = (s, 0) ∧ n = 0 ∧ verF j = -1 := by
  unfold parF at h
  split at h
  · rename_i h0
    split at h
    · rename_i hv
      obtain ⟨ls, e1, e2, e3, e4⟩ := scanJ_ok s.length s [] (scanJ [] [] s).1 (scanJ [] [] s).2.1 (Nat.le_refl _) (by rw [← h0])
      rw [List.nil_append] at e1
      have hj := (Prod.mk.inj h).1
      subst hj
      refine ⟨?_, ?_, hv⟩
      · unfold prtF
        rw [if_pos hv, e1, ← e2]
      · exact (Prod.mk.inj (Prod.mk.inj h).2).1.symm
    · simp at h
  · simp at h
theorem par_text {j : List Ent} (h : verF j = -1) : parF (textJ j) = (j, 0, 0) := by
  unfold parF
  rw [scanJ_text j [] (verG_ok j 0 0 0 h), List.nil_append, if_pos rfl, if_pos h]
theorem par_none {s : List UInt8} (h : (parF s).2.2 ≠ 0) : (parF s).1 = [] := by
  unfold parF at h ⊢
  split
  · rename_i h1
    split
    · rename_i h2
      rw [if_pos h1, if_pos h2] at h
      exact absurd rfl h
    · rfl
  · rfl
/-! ### A journal that is made -/
def addF (j : List Ent) (i : Int) (s : List UInt8) : List Ent := if (appF j i s).2 = 0 then (appF j i s).1 else j
def madeG (i : Nat) (j : List Ent) : List (List UInt8) → List Ent
  | [] => j
  | s :: r => madeG (i + 1) (addF j i s) r
def madeF (ts : List (List UInt8)) : List Ent := madeG 0 [] ts
def lens (ts : List (List UInt8)) : Nat := (ts.map List.length).sum
theorem addF_facts (j : List Ent) (i : Int) (s : List UInt8) (hv : verF j = -1) : verF (addF j i s) = -1 ∧ (addF j i s).length ≤ j.length + 1 ∧ totT (addF j i s) ≤ totT j + s.length := by
  unfold addF
  split
  · rename_i h
    have h' : appF j i s = ((appF j i s).1, 0) := by rw [← h]
    refine ⟨appF_good h' hv, ?_⟩
    obtain ⟨e, _⟩ := appF_ok h'
    rw [e, totT_snoc]
    simp
  · exact ⟨hv, by omega, by omega⟩
theorem madeG_facts : ∀ (ts : List (List UInt8)) (i : Nat) (j : List Ent), verF j = -1 → verF (madeG i j ts) = -1 ∧ (madeG i j ts).length ≤ j.length + ts.length ∧ totT (madeG i j ts) ≤ totT j + lens ts
  | [], _, j, h => ⟨h, by simp [madeG], by simp [madeG]⟩
  | s :: r, i, j, h => by
    obtain ⟨h1, h2, h3⟩ := addF_facts j i s h
    obtain ⟨g1, g2, g3⟩ := madeG_facts r (i + 1) (addF j i s) h1
    refine ⟨g1, ?_, ?_⟩
    · simp only [madeG, List.length_cons]; omega
    · simp only [madeG, lens, List.map_cons, List.sum_cons] at g3 ⊢; omega
theorem madeF_facts (ts : List (List UInt8)) : verF (madeF ts) = -1 ∧ (madeF ts).length ≤ ts.length ∧ totT (madeF ts) ≤ lens ts := by
  obtain ⟨h1, h2, h3⟩ := madeG_facts ts 0 [] rfl
  unfold madeF
  exact ⟨h1, by simpa using h2, by rw [totT_nil] at h3; simpa using h3⟩
/-! ### A change is detected -/
theorem two_cases {i : Nat} {pt : Int} {ps : Nat} {x z : Ent} {r : List Ent} (h : verG (i + 2) z.time z.sum r = -1) : verG i pt ps (x :: z :: r) = -1 ∨ (0 ≤ verG i pt ps (x :: z :: r) ∧ verG i pt ps (x :: z :: r) ≤ i + 1) := by
  rw [verG]
  split
  · rw [verG]
    split
    · exact .inl h
    · right; omega
  · right; omega
theorem at_most {k j' : List Ent} {i : Int} (h : k = j') (hh : verF j' = -1 ∨ (0 ≤ verF j' ∧ verF j' ≤ i)) : verF k = -1 ∨ (0 ≤ verF k ∧ verF k ≤ i) := h ▸ hh
theorem changed_set {p q : List Ent} {y : Ent} (x : Ent) (h : verF (p ++ y :: q) = -1) : verF (p ++ x :: q) = -1 ∨ (0 ≤ verF (p ++ x :: q) ∧ verF (p ++ x :: q) ≤ p.length + 1) := by
  obtain ⟨h1, h2⟩ := verG_left h
  unfold verF
  rw [verG_append, if_pos h1, Nat.zero_add]
  rw [Nat.zero_add, verG] at h2
  split at h2
  · cases q with
    | nil =>
      rw [verG]
      split
      · exact .inl rfl
      · right; omega
    | cons z r =>
      rw [verG] at h2
      split at h2
      · exact two_cases h2
      · omega
  · omega
theorem changed_drop {p q : List Ent} {y : Ent} (h : verF (p ++ y :: q) = -1) : verF (p ++ q) = -1 ∨ (0 ≤ verF (p ++ q) ∧ verF (p ++ q) ≤ p.length + 1) := by
  have hlen := verG_len _ _ _ _ h (by omega)
  obtain ⟨h1, h2⟩ := verG_left h
  unfold verF
  rw [verG_append, if_pos h1, Nat.zero_add]
  rw [Nat.zero_add, verG] at h2
  split at h2
  · cases q with
    | nil => exact .inl rfl
    | cons z r =>
      rw [verG] at h2
      split at h2
      · rw [verG]
        split
        · refine .inl (verG_shift r _ _ _ h2 ?_)
          simp at hlen
          omega
        · right; omega
      · omega
  · omega
theorem split_at {j : List Ent} {i : Nat} (h : i < j.length) : j = j.take i ++ j[i] :: j.drop (i + 1) := by
  rw [← List.drop_eq_getElem_cons h, List.take_append_drop]
theorem set_at {j : List Ent} {i : Nat} (x : Ent) (h : i < j.length) : j.set i x = j.take i ++ x :: j.drop (i + 1) := List.set_eq_take_append_cons_drop.trans (if_pos h)
theorem verF_set {j : List Ent} {i : Nat} (x : Ent) (h : i < j.length) (hv : verF j = -1) : verF (j.set i x) = -1 ∨ (0 ≤ verF (j.set i x) ∧ verF (j.set i x) ≤ i + 1) := by
  rw [set_at x h]
  rw [split_at h] at hv
  have := changed_set x hv
  rw [List.length_take, Nat.min_eq_left (by omega)] at this
  exact this
theorem verF_drop {j : List Ent} {i : Nat} (h : i < j.length) (hv : verF j = -1) : verF (j.take i ++ j.drop (i + 1)) = -1 ∨ (0 ≤ verF (j.take i ++ j.drop (i + 1)) ∧ verF (j.take i ++ j.drop (i + 1)) ≤ i + 1) := by
  rw [split_at h] at hv
  have := changed_drop hv
  rw [List.length_take, Nat.min_eq_left (by omega)] at this
  exact this
end Go.Proofs.YtnckainiphlndaaDoor
