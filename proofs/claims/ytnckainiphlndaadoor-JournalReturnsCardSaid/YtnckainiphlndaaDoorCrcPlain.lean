/- Plain laws of CRC-32, of sealing and of the digest: no program in sight. -/
namespace Go.Proofs.YtnckainiphlndaaDoor.Crc
set_option linter.unusedVariables false
set_option linter.unusedSimpArgs false

def poly : Nat := 3988292384
def step (r : Nat) : Nat := if r % 2 = 1 then (r / 2) ^^^ poly else r / 2
def steps : Nat → Nat → Nat
  | 0, r => r
  | k + 1, r => step (steps k r)
def byte (r : Nat) (c : UInt8) : Nat := steps 8 (r ^^^ c.toNat)
def reg (r : Nat) (l : List UInt8) : Nat := l.foldl byte r
def sum (l : List UInt8) : Nat := reg 4294967295 l ^^^ 4294967295

theorem xor_lt32 {a b : Nat} (ha : a < 4294967296) (hb : b < 4294967296) : a ^^^ b < 4294967296 := Nat.xor_lt_two_pow (n := 32) ha hb
theorem step_lt {r : Nat} (h : r < 4294967296) : step r < 4294967296 := by
  unfold step
  split
  · exact xor_lt32 (by omega) (by decide)
  · omega
theorem steps_lt {r : Nat} (h : r < 4294967296) : ∀ k, steps k r < 4294967296
  | 0 => h
  | k + 1 => step_lt (steps_lt h k)
theorem u8_lt (c : UInt8) : c.toNat < 256 := c.toNat_lt
theorem byte_lt {r : Nat} (c : UInt8) (h : r < 4294967296) : byte r c < 4294967296 :=
  steps_lt (xor_lt32 h (by have := u8_lt c; omega)) 8
theorem reg_lt (l : List UInt8) : ∀ {r : Nat}, r < 4294967296 → reg r l < 4294967296 := by
  induction l with
  | nil => intro r h; exact h
  | cons c l ih => intro r h; exact ih (byte_lt c h)
theorem sum_lt (l : List UInt8) : sum l < 4294967296 := xor_lt32 (reg_lt l (by decide)) (by decide)
theorem reg_snoc (r : Nat) (l : List UInt8) (c : UInt8) : reg r (l ++ [c]) = byte (reg r l) c := by simp [reg]

/-! The reference's register: bit by bit. -/
def refStep (c k n : Nat) : Nat := if (n ^^^ (c >>> k)) % 2 = 1 then (n / 2) ^^^ poly else n / 2
def refSteps (c : Nat) : Nat → Nat → Nat
  | 0, n => n
  | k + 1, n => refStep c k (refSteps c k n)
theorem xor_half (a b : Nat) : (a ^^^ b) / 2 = a / 2 ^^^ b / 2 := Nat.xor_div_two
theorem refSteps_eq (c n : Nat) : ∀ k, refSteps c k n = steps k (n ^^^ c) ^^^ (c >>> k)
  | 0 => by simp [refSteps, steps, Nat.xor_assoc]
  | k + 1 => by
    have ih := refSteps_eq c n k
    have e : refSteps c k n ^^^ (c >>> k) = steps k (n ^^^ c) := by rw [ih, Nat.xor_assoc, Nat.xor_self, Nat.xor_zero]
    have hh : c >>> (k + 1) = (c >>> k) / 2 := by rw [Nat.shiftRight_succ]
    have e2 : refSteps c k n / 2 = steps k (n ^^^ c) / 2 ^^^ (c >>> k) / 2 := by rw [ih, xor_half]
    simp only [refSteps, refStep, steps, step]
    rw [e, e2, hh]
    split
    · rw [Nat.xor_assoc, Nat.xor_assoc, Nat.xor_comm ((c >>> k) / 2)]
    · rfl
theorem ref_byte (r : Nat) (c : UInt8) : refSteps c.toNat 8 r = byte r c := by
  have h := u8_lt c
  have e : c.toNat >>> 8 = 0 := by rw [Nat.shiftRight_eq_div_pow]; omega
  rw [refSteps_eq, e, Nat.xor_zero]
  rfl

/-! Sealing. -/
def tail (n : Nat) : List UInt8 := [UInt8.ofNat (n / 16777216), UInt8.ofNat (n / 65536), UInt8.ofNat (n / 256), UInt8.ofNat n]
def sealed (l : List UInt8) : List UInt8 := l ++ tail (sum l)
theorem tail_length (n : Nat) : (tail n).length = 4 := rfl
theorem sealed_length (l : List UInt8) : (sealed l).length = l.length + 4 := by simp [sealed, tail]
def body (l : List UInt8) : List UInt8 := l.take (l.length - 4)
theorem body_sealed (l : List UInt8) : body (sealed l) = l := by simp [body, sealed_length]; simp [sealed]
/-- The error number and the text that opening gives. 2: truncated, 3: corrupt are put in by the walk. -/
def opens (l : List UInt8) : Bool := decide (4 ≤ l.length) && (l == sealed (body l))
theorem opens_iff {l : List UInt8} : opens l = true ↔ ∃ t, l = sealed t := by
  constructor
  · intro h
    simp [opens] at h
    exact ⟨_, h.2⟩
  · rintro ⟨t, rfl⟩
    simp [opens, body_sealed, sealed_length]

/-! A step can be taken back. -/
theorem step_inj {a b : Nat} (ha : a < 4294967296) (hb : b < 4294967296) (h : step a = step b) : a = b := by
  have hp : poly / 2147483648 = 1 := by decide
  have top : ∀ x : Nat, x < 4294967296 → ((x / 2) ^^^ poly) / 2147483648 = 1 := by
    intro x hx
    have : ((x / 2) ^^^ poly) / 2 ^ 31 = (x / 2) / 2 ^ 31 ^^^ poly / 2 ^ 31 := Nat.xor_div_two_pow
    rw [show (2147483648 : Nat) = 2 ^ 31 by decide, this, show x / 2 / 2 ^ 31 = 0 by omega]
    decide
  have cancel : ∀ x y : Nat, x ^^^ poly = y ^^^ poly → x = y := by
    intro x y h
    have := congrArg (· ^^^ poly) h
    simpa [Nat.xor_assoc] using this
  unfold step at h
  split at h <;> split at h
  · have := cancel _ _ h
    omega
  · have := top a ha
    rw [h] at this
    omega
  · have := top b hb
    rw [← h] at this
    omega
  · omega
theorem steps_inj {a b : Nat} (ha : a < 4294967296) (hb : b < 4294967296) : ∀ k, steps k a = steps k b → a = b
  | 0, h => h
  | k + 1, h => steps_inj ha hb k (step_inj (steps_lt ha k) (steps_lt hb k) h)
theorem xor_left_cancel {a b c : Nat} (h : a ^^^ b = a ^^^ c) : b = c := by
  have := congrArg (a ^^^ ·) h
  simpa [← Nat.xor_assoc] using this
theorem xor_right_cancel {a b c : Nat} (h : b ^^^ a = c ^^^ a) : b = c := by
  have := congrArg (· ^^^ a) h
  simpa [Nat.xor_assoc] using this
theorem byte_inj_reg {a b : Nat} (c : UInt8) (ha : a < 4294967296) (hb : b < 4294967296) (h : byte a c = byte b c) : a = b := by
  have hc := u8_lt c
  exact xor_right_cancel (steps_inj (xor_lt32 ha (by omega)) (xor_lt32 hb (by omega)) 8 h)
theorem byte_inj_byte {a : Nat} {c d : UInt8} (ha : a < 4294967296) (h : byte a c = byte a d) : c = d := by
  have hc := u8_lt c
  have hd := u8_lt d
  exact UInt8.toNat_inj.1 (xor_left_cancel (steps_inj (xor_lt32 ha (by omega)) (xor_lt32 ha (by omega)) 8 h))
theorem reg_inj (l : List UInt8) : ∀ {a b : Nat}, a < 4294967296 → b < 4294967296 → reg a l = reg b l → a = b := by
  induction l with
  | nil => intro a b _ _ h; exact h
  | cons c l ih => intro a b ha hb h; exact byte_inj_reg c ha hb (ih (byte_lt c ha) (byte_lt c hb) h)
theorem reg_append (r : Nat) (l m : List UInt8) : reg r (l ++ m) = reg (reg r l) m := by simp [reg]
/-- One byte changed: another checksum. -/
theorem sum_changed (p q : List UInt8) {c d : UInt8} (h : c ≠ d) : sum (p ++ c :: q) ≠ sum (p ++ d :: q) := by
  intro e
  have hp : reg 4294967295 p < 4294967296 := reg_lt p (by decide)
  have e1 := xor_right_cancel e
  rw [reg_append, reg_append] at e1
  exact h (byte_inj_byte hp (reg_inj q (byte_lt c hp) (byte_lt d hp) e1))
theorem ofNat_inj {a b : Nat} (h : UInt8.ofNat a = UInt8.ofNat b) : a % 256 = b % 256 := by
  have := congrArg UInt8.toNat h
  simpa using this
theorem tail_inj {a b : Nat} (ha : a < 4294967296) (hb : b < 4294967296) (h : tail a = tail b) : a = b := by
  simp only [tail, List.cons.injEq, and_true] at h
  obtain ⟨h1, h2, h3, h4⟩ := h
  have := ofNat_inj h1
  have := ofNat_inj h2
  have := ofNat_inj h3
  have := ofNat_inj h4
  omega
theorem set_split {α : Type} : ∀ (l : List α) (i : Nat) (c : α) (h : i < l.length), ∃ p q, l = p ++ l[i] :: q ∧ l.set i c = p ++ c :: q ∧ p.length = i
  | a :: l, 0, c, _ => ⟨[], l, rfl, rfl, rfl⟩
  | a :: l, i + 1, c, h => by
    obtain ⟨p, q, h1, h2, h3⟩ := set_split l i c (by simpa using h)
    exact ⟨a :: p, q, by simpa using h1, by simp [h2], by simp [h3]⟩
/-- A sealed text with one byte changed does not open. -/
theorem changed_not_sealed (l : List UInt8) (i : Nat) (c : UInt8) (hi : i < (sealed l).length) (hc : (sealed l)[i] ≠ c) : opens ((sealed l).set i c) = false := by
  rw [Bool.eq_false_iff]
  intro ho
  obtain ⟨t, ht⟩ := opens_iff.1 ho
  have hlen : t.length = l.length := by
    have := congrArg List.length ht
    simp [sealed_length] at this
    omega
  unfold sealed at ht
  by_cases hil : i < l.length
  · rw [List.set_append_left _ _ hil] at ht
    have h1 := List.append_inj ht (by simp [hlen])
    obtain ⟨p, q, e1, e2, _⟩ := set_split l i c hil
    have hne : l[i] ≠ c := by
      intro e
      apply hc
      simp only [sealed]
      rw [List.getElem_append_left hil]
      exact e
    have h3 := tail_inj (sum_lt _) (sum_lt _) h1.2
    rw [← h1.1, e2] at h3
    rw [e1] at h3
    exact sum_changed p q hne (by simpa using h3)
  · rw [List.set_append_right _ _ (by omega)] at ht
    have h1 := List.append_inj ht (by omega)
    have h2 := h1.2
    rw [← h1.1] at h2
    have hl : i - l.length < (tail (sum l)).length := by
      rw [sealed_length] at hi
      rw [tail_length]
      omega
    have h3 : (tail (sum l))[i - l.length] = c := by
      have := congrArg (fun x : List UInt8 => x[i - l.length]?) h2
      simp [hl] at this
      exact this.symm
    apply hc
    simp only [sealed]
    rw [List.getElem_append_right (by omega)]
    exact h3

/-! The checksum of an exclusive or of three. -/
theorem xor3_half (a b c : Nat) : (a ^^^ b ^^^ c) / 2 = a / 2 ^^^ b / 2 ^^^ c / 2 := by rw [xor_half, xor_half]
theorem step_xor3 (a b c : Nat) : step (a ^^^ b ^^^ c) = step a ^^^ step b ^^^ step c := by
  have hm : (a ^^^ b ^^^ c) % 2 = (a + b + c) % 2 := by
    have h2 : ∀ x y : Nat, (x ^^^ y) % 2 = (x + y) % 2 := fun x y => by
      rw [show (x ^^^ y) % 2 = x % 2 ^^^ y % 2 from Nat.xor_mod_two_pow (n := 1)]
      rcases Nat.mod_two_eq_zero_or_one x with e | e <;> rcases Nat.mod_two_eq_zero_or_one y with f | f <;> rw [Nat.add_mod, e, f] <;> rfl
    rw [h2, Nat.add_mod, h2]
    omega
  unfold step
  rw [hm, xor3_half]
  rcases Nat.mod_two_eq_zero_or_one a with ea | ea <;> rcases Nat.mod_two_eq_zero_or_one b with eb | eb <;> rcases Nat.mod_two_eq_zero_or_one c with ec | ec <;>
    simp only [ea, eb, ec, Nat.add_mod, show (0 : Nat) ≠ 1 by decide, if_true, if_false, Nat.reduceAdd, Nat.reduceMod] <;>
    generalize a / 2 = x <;> generalize b / 2 = y <;> generalize c / 2 = z <;> generalize poly = p
  all_goals
    apply Nat.eq_of_testBit_eq
    intro i
    simp only [Nat.testBit_xor]
    cases x.testBit i <;> cases y.testBit i <;> cases z.testBit i <;> cases p.testBit i <;> rfl
theorem steps_xor3 (a b c : Nat) : ∀ k, steps k (a ^^^ b ^^^ c) = steps k a ^^^ steps k b ^^^ steps k c
  | 0 => rfl
  | k + 1 => by simp only [steps]; rw [steps_xor3 a b c k, step_xor3]
theorem byte_xor3 (a b c : Nat) (x y z : UInt8) : byte (a ^^^ b ^^^ c) (x ^^^ y ^^^ z) = byte a x ^^^ byte b y ^^^ byte c z := by
  unfold byte
  rw [← steps_xor3]
  congr 1
  rw [UInt8.toNat_xor, UInt8.toNat_xor]
  apply Nat.eq_of_testBit_eq
  intro i
  simp only [Nat.testBit_xor]
  cases a.testBit i <;> cases b.testBit i <;> cases c.testBit i <;> cases x.toNat.testBit i <;> cases y.toNat.testBit i <;> cases z.toNat.testBit i <;> rfl
def xor3 : List UInt8 → List UInt8 → List UInt8 → List UInt8
  | x :: a, y :: b, z :: c => (x ^^^ y ^^^ z) :: xor3 a b c
  | _, _, _ => []
theorem reg_xor3 : ∀ (a b c : List UInt8) (r s t : Nat), a.length = b.length → b.length = c.length → reg (r ^^^ s ^^^ t) (xor3 a b c) = reg r a ^^^ reg s b ^^^ reg t c
  | [], [], [], r, s, t, _, _ => rfl
  | x :: a, y :: b, z :: c, r, s, t, h1, h2 => by
    have := reg_xor3 a b c (byte r x) (byte s y) (byte t z) (by simpa using h1) (by simpa using h2)
    simp only [reg, xor3, List.foldl_cons] at this ⊢
    rw [byte_xor3]
    exact this
theorem sum_xor3 (a b c : List UInt8) (h1 : a.length = b.length) (h2 : b.length = c.length) : sum (xor3 a b c) = sum a ^^^ sum b ^^^ sum c := by
  have h := reg_xor3 a b c 4294967295 4294967295 4294967295 h1 h2
  rw [Nat.xor_self, Nat.zero_xor] at h
  unfold sum
  rw [h]
  generalize reg 4294967295 a = x
  generalize reg 4294967295 b = y
  generalize reg 4294967295 c = z
  apply Nat.eq_of_testBit_eq
  intro i
  simp only [Nat.testBit_xor]
  cases x.testBit i <;> cases y.testBit i <;> cases z.testBit i <;> cases (4294967295 : Nat).testBit i <;> rfl

/-! The digest and the hexadecimal digits. -/
def add1 (r : Nat) (c : UInt8) : Nat := ((r ^^^ c.toNat) * 1099511628211) % 18446744073709551616
def addAll (r : Nat) (l : List UInt8) : Nat := l.foldl add1 r
def leN : Nat → Nat → List UInt8
  | 0, _ => []
  | k + 1, n => UInt8.ofNat n :: leN k (n / 256)
theorem leN_length : ∀ k n, (leN k n).length = k
  | 0, _ => rfl
  | k + 1, n => by simp [leN, leN_length k]
theorem leN_get : ∀ (k n i : Nat) (h : i < (leN k n).length), (leN k n)[i] = UInt8.ofNat (n / 256 ^ i)
  | 0, _, _, h => by simp [leN] at h
  | k + 1, n, 0, _ => by simp [leN]
  | k + 1, n, i + 1, h => by
    have := leN_get k (n / 256) i (by simpa [leN] using h)
    simp only [leN, List.getElem_cons_succ, this]
    rw [Nat.div_div_eq_div_mul, Nat.pow_succ, Nat.mul_comm]
def le8 (n : Nat) : List UInt8 := leN 8 n
theorem le8_length (n : Nat) : (le8 n).length = 8 := leN_length 8 n
theorem le8_get (n i : Nat) (h : i < 8) : (le8 n)[i]? = some (UInt8.ofNat (n / 256 ^ i)) := by
  unfold le8
  have hl : i < (leN 8 n).length := by rw [leN_length]; exact h
  rw [List.getElem?_eq_getElem hl, leN_get]
def chain (h : Nat) (l : List UInt8) : Nat := addAll 14695981039346656037 (le8 h ++ le8 l.length ++ l)
theorem addAll_append (r : Nat) (l m : List UInt8) : addAll r (l ++ m) = addAll (addAll r l) m := by
  unfold addAll
  rw [List.foldl_append]
theorem add1_lt (r : Nat) (c : UInt8) : add1 r c < 18446744073709551616 := by
  unfold add1
  exact Nat.mod_lt _ (by omega)
theorem addAll_snoc (r : Nat) (l : List UInt8) (c : UInt8) : addAll r (l ++ [c]) = add1 (addAll r l) c := by
  unfold addAll
  rw [List.foldl_append, List.foldl_cons, List.foldl_nil]
theorem addAll_lt (l : List UInt8) : ∀ {r : Nat}, r < 18446744073709551616 → addAll r l < 18446744073709551616 := by
  unfold addAll
  induction l with
  | nil => intro r h; rw [List.foldl_nil]; exact h
  | cons c l ih => intro r _; rw [List.foldl_cons]; exact ih (add1_lt r c)
theorem chain_eq (h : Nat) (l : List UInt8) : chain h l = addAll (addAll (addAll 14695981039346656037 (le8 h)) (le8 l.length)) l := by
  unfold chain
  rw [addAll_append, addAll_append]
theorem chain_lt (h : Nat) (l : List UInt8) : chain h l < 18446744073709551616 := by
  unfold chain
  exact addAll_lt _ (by omega)
def dig (d : Nat) : UInt8 := if d < 10 then UInt8.ofNat (48 + d) else UInt8.ofNat (87 + d)
def hexF : Nat → Nat → List UInt8 → List UInt8
  | 0, _, acc => acc
  | k + 1, h, acc => hexF k (h / 16) (dig (h % 16) :: acc)
def hex (h : Nat) : List UInt8 := hexF 16 h []
theorem hexF_acc : ∀ (k h : Nat) (acc : List UInt8), hexF k h acc = hexF k h [] ++ acc
  | 0, _, _ => rfl
  | k + 1, h, acc => by
    simp only [hexF]
    rw [hexF_acc k (h / 16) (dig (h % 16) :: acc), hexF_acc k (h / 16) [dig (h % 16)]]
    simp
theorem hexF_length : ∀ (k h : Nat), (hexF k h []).length = k
  | 0, _ => rfl
  | k + 1, h => by
    simp only [hexF]
    rw [hexF_acc]
    simp [hexF_length k]
theorem hex_length (h : Nat) : (hex h).length = 16 := hexF_length 16 h
theorem hexF_get : ∀ (k h j : Nat) (_ : j < k), (hexF k h [])[k - 1 - j]? = some (dig (h / 16 ^ j % 16))
  | 0, _, _, hj => by omega
  | k + 1, h, 0, _ => by
    simp only [hexF]
    rw [hexF_acc, List.getElem?_append_right (by rw [hexF_length]; omega), hexF_length]
    simp
  | k + 1, h, j + 1, hj => by
    simp only [hexF]
    rw [hexF_acc, List.getElem?_append_left (by rw [hexF_length]; omega), show k + 1 - 1 - (j + 1) = k - 1 - j by omega, hexF_get k (h / 16) j (by omega)]
    rw [Nat.div_div_eq_div_mul, Nat.pow_succ, Nat.mul_comm]
end Go.Proofs.YtnckainiphlndaaDoor.Crc
