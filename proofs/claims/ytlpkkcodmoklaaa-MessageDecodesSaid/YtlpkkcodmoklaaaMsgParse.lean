/- Messages read from a text, step by step. -/
import Derived.Test.YtlpkkcodmoklaaaMsgPlain
import Derived.Test.YtlpkkcodmoklaaaRdr
import Derived.Test.YtlpkkcodmoklaaaMsgCod
namespace Go.Proofs.Ytlpkkcodmoklaaa
set_option linter.unusedVariables false
set_option linter.unusedSimpArgs false
section
variable {σ : Type} (f : σ → Int × σ)
def segN : Nat → σ → List Seg → List Seg × σ
  | 0, s, acc => (acc, s)
  | n + 1, s, acc => segN n (f (f (f (f s).2).2).2).2 (acc ++ [((f s).1, (f (f s).2).1, (f (f (f s).2).2).1, (f (f (f (f s).2).2).2).1)])
def lnkN : Nat → σ → List Lnk → List Lnk × σ
  | 0, s, acc => (acc, s)
  | n + 1, s, acc => lnkN n (f (f s).2).2 (acc ++ [((f s).1, (f (f s).2).1)])
theorem segN_len : ∀ (n : Nat) (s : σ) (acc : List Seg), (segN f n s acc).1.length = acc.length + n
  | 0, _, _ => rfl
  | n + 1, s, acc => by rw [segN, segN_len n]; simp; omega
theorem lnkN_len : ∀ (n : Nat) (s : σ) (acc : List Lnk), (lnkN f n s acc).1.length = acc.length + n
  | 0, _, _ => rfl
  | n + 1, s, acc => by rw [lnkN, lnkN_len n]; simp; omega
theorem segN_ok (hf : ∀ s, I64n (f s).1) : ∀ (n : Nat) (s : σ) (acc : List Seg), (∀ x ∈ acc, Seg.ok x) → ∀ x ∈ (segN f n s acc).1, Seg.ok x
  | 0, _, _, h => h
  | n + 1, s, acc, h => by
    rw [segN]
    refine segN_ok hf n _ _ fun x hx => ?_
    rcases List.mem_append.1 hx with hx | hx
    · exact h x hx
    · simp at hx
      subst hx
      exact ⟨hf _, hf _, hf _, hf _⟩
theorem lnkN_ok (hf : ∀ s, I64n (f s).1) : ∀ (n : Nat) (s : σ) (acc : List Lnk), (∀ x ∈ acc, Lnk.ok x) → ∀ x ∈ (lnkN f n s acc).1, Lnk.ok x
  | 0, _, _, h => h
  | n + 1, s, acc, h => by
    rw [lnkN]
    refine lnkN_ok hf n _ _ fun x hx => ?_
    rcases List.mem_append.1 hx with hx | hx
    · exact h x hx
    · simp at hx
      subst hx
      exact ⟨hf _, hf _⟩
end
theorem stepI_ok (t : List UInt8) (s : Int × Bool) : I64n (stepI t s).1 := by
  unfold stepI
  split
  · exact Wire.takeI_bd _ _
  · exact ⟨by show (-9223372036854775808 : Int) ≤ 0; omega, by show (0 : Int) ≤ 9223372036854775807; omega⟩
theorem refI_ok (t : List UInt8) (s : Int) : I64n (refI t s).1 := by
  unfold refI
  split
  · exact Wire.takeI_bd _ _
  · exact ⟨by show (-9223372036854775808 : Int) ≤ 0; omega, by show (0 : Int) ≤ 9223372036854775807; omega⟩
/-- The authority that the program reads. -/
def parseA (t : List UInt8) (s : Int × Bool) : (Int × Int × List Seg × List Lnk) × Int × Bool :=
  let r1 := stepI t s
  let r2 := stepI t r1.2
  let c := stepC 128 t r2.2
  let p := segN (stepI t) c.1 c.2 []
  let d := stepC 24 t p.2
  let l := lnkN (stepI t) d.1 d.2 []
  ((r1.1, r2.1, p.1, l.1), l.2)
end Go.Proofs.Ytlpkkcodmoklaaa
