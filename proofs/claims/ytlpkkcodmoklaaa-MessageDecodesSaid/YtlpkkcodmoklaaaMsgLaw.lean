/- The plain law of messages: what is encoded is read back, what is read without fault is an encoding; the program and the reference read alike. -/
import Derived.Test.YtlpkkcodmoklaaaMsgDecF
import Derived.Test.YtlpkkcodmoklaaaMsgEncC
namespace Go.Proofs.Ytlpkkcodmoklaaa
set_option linter.unusedVariables false
set_option linter.unusedSimpArgs false
open Wire (Part part_join)
open Go.RowKit
/-! ### Reading forward what was encoded -/
section
variable {σ : Type} {t : List UInt8} {f : σ → Int × σ} {st : Int → σ}
/-- A reader of numbers reads each number where it was encoded. -/
def Fwd (t : List UInt8) (f : σ → Int × σ) (st : Int → σ) : Prop := ∀ (P : List UInt8) (n : Int) (Q : List UInt8), t = P ++ (Wire.encI n ++ Q) → I64n n → f (st P.length) = (n, st (P ++ Wire.encI n).length)
/-- A reader of counts reads each count where it was encoded, if as many bytes follow. -/
def FwdC (t : List UInt8) (c : σ → Nat × σ) (st : Int → σ) (most : Nat) : Prop := ∀ (P : List UInt8) (n : Nat) (Q : List UInt8), t = P ++ (Wire.enc n ++ Q) → n ≤ most → n ≤ Q.length → c (st P.length) = (n, st (P ++ Wire.enc n).length)
theorem encIs_cons (n : Int) (l : List Int) : Wire.encIs (n :: l) = Wire.encI n ++ Wire.encIs l := rfl
theorem segE_eq (s : Seg) : segE s = Wire.encI s.1 ++ (Wire.encI s.2.1 ++ (Wire.encI s.2.2.1 ++ Wire.encI s.2.2.2)) := by simp [segE, Wire.encIs]
theorem lnkE_eq (x : Lnk) : lnkE x = Wire.encI x.1 ++ Wire.encI x.2 := by simp [lnkE, Wire.encIs]
theorem fwd2 (hf : Fwd t f st) {P Q : List UInt8} {a b : Int} (e : t = P ++ (Wire.encI a ++ (Wire.encI b ++ Q))) (ha : I64n a) (hb : I64n b) :
    f (st P.length) = (a, st (P ++ Wire.encI a).length) ∧ f (st (P ++ Wire.encI a).length) = (b, st (P ++ Wire.encI a ++ Wire.encI b).length) :=
  ⟨hf P a _ e ha, hf (P ++ Wire.encI a) b Q (by rw [e]; simp) hb⟩
theorem segN_fwd (hf : Fwd t f st) : ∀ (L : List Seg) (P Q : List UInt8) (acc : List Seg), t = P ++ (segsE L ++ Q) → (∀ x ∈ L, Seg.ok x) → segN f L.length (st P.length) acc = (acc ++ L, st (P ++ segsE L).length)
  | [], P, Q, acc, _, _ => by simp [segN, segsE]
  | s :: L, P, Q, acc, e, h => by
    have h0 := h s (by simp)
    have e0 : segsE (s :: L) = Wire.encI s.1 ++ (Wire.encI s.2.1 ++ (Wire.encI s.2.2.1 ++ (Wire.encI s.2.2.2 ++ segsE L))) := by
      show segE s ++ segsE L = _
      rw [segE_eq]; simp
    rw [e0] at e
    have h1 := hf P s.1 (Wire.encI s.2.1 ++ (Wire.encI s.2.2.1 ++ (Wire.encI s.2.2.2 ++ (segsE L ++ Q)))) (by rw [e]; simp) h0.1
    have h2 := hf (P ++ Wire.encI s.1) s.2.1 (Wire.encI s.2.2.1 ++ (Wire.encI s.2.2.2 ++ (segsE L ++ Q))) (by rw [e]; simp) h0.2.1
    have h3 := hf (P ++ Wire.encI s.1 ++ Wire.encI s.2.1) s.2.2.1 (Wire.encI s.2.2.2 ++ (segsE L ++ Q)) (by rw [e]; simp) h0.2.2.1
    have h4 := hf (P ++ Wire.encI s.1 ++ Wire.encI s.2.1 ++ Wire.encI s.2.2.1) s.2.2.2 (segsE L ++ Q) (by rw [e]; simp) h0.2.2.2
    show segN f (L.length + 1) (st P.length) acc = _
    rw [segN, h1]
    simp only []
    rw [h2]
    simp only []
    rw [h3]
    simp only []
    rw [h4]
    simp only []
    rw [segN_fwd hf L _ Q _ (by rw [e]; simp) (fun x hx => h x (by simp [hx])), e0]
    simp
theorem lnkN_fwd (hf : Fwd t f st) : ∀ (L : List Lnk) (P Q : List UInt8) (acc : List Lnk), t = P ++ (lnksE L ++ Q) → (∀ x ∈ L, Lnk.ok x) → lnkN f L.length (st P.length) acc = (acc ++ L, st (P ++ lnksE L).length)
  | [], P, Q, acc, _, _ => by simp [lnkN, lnksE]
  | s :: L, P, Q, acc, e, h => by
    have h0 := h s (by simp)
    have e0 : lnksE (s :: L) = Wire.encI s.1 ++ (Wire.encI s.2 ++ lnksE L) := by
      show lnkE s ++ lnksE L = _
      rw [lnkE_eq]; simp
    rw [e0] at e
    have h1 := hf P s.1 (Wire.encI s.2 ++ (lnksE L ++ Q)) (by rw [e]; simp) h0.1
    have h2 := hf (P ++ Wire.encI s.1) s.2 (lnksE L ++ Q) (by rw [e]; simp) h0.2
    show lnkN f (L.length + 1) (st P.length) acc = _
    rw [lnkN, h1]
    simp only []
    rw [h2]
    simp only []
    rw [lnkN_fwd hf L _ Q _ (by rw [e]; simp) (fun x hx => h x (by simp [hx])), e0]
    simp
/-- An authority, by whatever reader. -/
def authG (f : σ → Int × σ) (c d : σ → Nat × σ) (s : σ) : (Int × Int × List Seg × List Lnk) × σ :=
  let r1 := f s
  let r2 := f r1.2
  let n := c r2.2
  let p := segN f n.1 n.2 []
  let k := d p.2
  let l := lnkN f k.1 k.2 []
  ((r1.1, r2.1, p.1, l.1), l.2)
theorem encI_pos (n : Int) (h : I64n n) : 1 ≤ (Wire.encI n).length := (Wire.encI_length n h).1
theorem segsE_pos : ∀ (L : List Seg), (∀ x ∈ L, Seg.ok x) → L.length ≤ (segsE L).length
  | [], _ => by simp
  | s :: L, h => by
    have h0 := h s (by simp)
    have ih := segsE_pos L (fun x hx => h x (by simp [hx]))
    have e : segsE (s :: L) = segE s ++ segsE L := rfl
    rw [e, segE_eq]
    have := encI_pos _ h0.1
    simp
    omega
theorem lnksE_pos : ∀ (L : List Lnk), (∀ x ∈ L, Lnk.ok x) → L.length ≤ (lnksE L).length
  | [], _ => by simp
  | s :: L, h => by
    have h0 := h s (by simp)
    have ih := lnksE_pos L (fun x hx => h x (by simp [hx]))
    have e : lnksE (s :: L) = lnkE s ++ lnksE L := rfl
    rw [e, lnkE_eq]
    have := encI_pos _ h0.1
    simp
    omega
theorem authG_fwd {c d : σ → Nat × σ} {x y : Nat} (hf : Fwd t f st) (hc : FwdC t c st x) (hd : FwdC t d st y) (m : Msg) (hm : m.Ok) (hp : ∀ s ∈ m.prof, Seg.ok s) (hl : ∀ s ∈ m.links, Lnk.ok s) (hx : m.prof.length ≤ x) (hy : m.links.length ≤ y)
    (P Q : List UInt8) (e : t = P ++ (authE m ++ Q)) : authG f c d (st P.length) = ((m.aseq, m.aend, m.prof, m.links), st (P ++ authE m).length) := by
  have ea : authE m = Wire.encI m.aseq ++ (Wire.encI m.aend ++ (Wire.enc m.prof.length ++ (segsE m.prof ++ (Wire.enc m.links.length ++ lnksE m.links)))) := by simp [authE, Wire.encIs]
  rw [ea] at e
  have h1 := hf P m.aseq (Wire.encI m.aend ++ (Wire.enc m.prof.length ++ (segsE m.prof ++ (Wire.enc m.links.length ++ (lnksE m.links ++ Q))))) (by rw [e]; simp) hm.aseq
  have h2 := hf (P ++ Wire.encI m.aseq) m.aend (Wire.enc m.prof.length ++ (segsE m.prof ++ (Wire.enc m.links.length ++ (lnksE m.links ++ Q)))) (by rw [e]; simp) hm.aend
  have h3 := hc (P ++ Wire.encI m.aseq ++ Wire.encI m.aend) m.prof.length (segsE m.prof ++ (Wire.enc m.links.length ++ (lnksE m.links ++ Q))) (by rw [e]; simp) hx (by have := segsE_pos m.prof hp; simp; omega)
  have h4 := segN_fwd hf m.prof (P ++ Wire.encI m.aseq ++ Wire.encI m.aend ++ Wire.enc m.prof.length) (Wire.enc m.links.length ++ (lnksE m.links ++ Q)) [] (by rw [e]; simp) hp
  have h5 := hd (P ++ Wire.encI m.aseq ++ Wire.encI m.aend ++ Wire.enc m.prof.length ++ segsE m.prof) m.links.length (lnksE m.links ++ Q) (by rw [e]; simp) hy (by have := lnksE_pos m.links hl; simp; omega)
  have h6 := lnkN_fwd hf m.links (P ++ Wire.encI m.aseq ++ Wire.encI m.aend ++ Wire.enc m.prof.length ++ segsE m.prof ++ Wire.enc m.links.length) Q [] (by rw [e]; simp) hl
  unfold authG
  simp only [h1, h2, h3, h4, h5, h6]
  rw [ea]
  simp
end
theorem stepI_fwd (t : List UInt8) : Fwd t (stepI t) (fun p => (p, false)) := by
  intro P n Q e hn
  have h := Wire.takeI_enc P Q n hn
  rw [List.append_assoc, ← e] at h
  simp [stepI, h]
theorem stepC_fwd (t : List UInt8) (most : Nat) (hm : most < 1000000) : FwdC t (stepC most t) (fun p => (p, false)) most := by
  intro P n Q e hn hq
  have h := Wire.takeC_enc P Q n most (by omega) (by omega) hq
  rw [List.append_assoc, ← e] at h
  simp [stepC, h]
theorem parseA_eq (t : List UInt8) (s : Int × Bool) : parseA t s = authG (stepI t) (stepC 128 t) (stepC 24 t) s := rfl
/-- What a valid message lies in. -/
theorem valid_parts {m : Msg} (h : validB m = true) : m.prof.length ≤ 128 ∧ m.links.length ≤ 24 ∧ (carB m.kind = false → m.aseq = 0 ∧ m.aend = 0 ∧ m.prof = [] ∧ m.links = []) ∧ ((m.kind == 1) = false → m.min = 0 ∧ m.speed = 0 ∧ m.mode = 0 ∧ m.acc = 0 ∧ m.whole = false) := by
  simp only [validB, Bool.and_eq_true] at h
  obtain ⟨⟨_, ha⟩, hr⟩ := h
  unfold authB at ha
  unfold repB at hr
  cases hc : carB m.kind <;> rw [hc] at ha <;> simp [grantB, profB] at ha
  · obtain ⟨⟨⟨a1, a2⟩, a3⟩, a4⟩ := ha
    refine ⟨by simp [a3], by simp [a4], fun _ => ⟨a1, a2, a3, a4⟩, fun hk => ?_⟩
    rw [hk] at hr
    simpa [and_assoc] using hr
  · refine ⟨by omega, by omega, (fun h => by cases h), fun hk => ?_⟩
    rw [hk] at hr
    simpa [and_assoc] using hr
theorem headE_eq (m : Msg) : headE m = Wire.encI m.kind ++ (Wire.encI m.fro ++ (Wire.encI m.to ++ (Wire.encI m.seq ++ Wire.encI m.time))) := by simp [headE, Wire.encIs]
theorem repE_eq (m : Msg) : repE m = Wire.encI m.min ++ (Wire.encI m.speed ++ (Wire.encI m.mode ++ (Wire.encI m.acc ++ Wire.encB m.whole))) := by simp [repE, Wire.encIs]
theorem car_not_rep {k : Int} (h : carB k = true) : (k == 1) = false := by
  simp only [carB, Bool.or_eq_true, beq_iff_eq] at h
  rcases h with h | h <;> rw [h] <;> rfl
/-- A valid message is read from its contents. -/
theorem parse_cont {m : Msg} (hv : validB m = true) (hm : m.Ok) (hp : ∀ s ∈ m.prof, Seg.ok s) (hl : ∀ s ∈ m.links, Lnk.ok s) : parseM (cont m) (0, false) = (m, ((cont m).length : Int), false) := by
  obtain ⟨v1, v2, v3, v4⟩ := valid_parts hv
  generalize ht : cont m = t
  have hF := stepI_fwd t
  obtain ⟨R, e⟩ : ∃ R, t = headE m ++ R ∧ R = (if carB m.kind then authE m else []) ++ (if m.kind == 1 then repE m else []) := ⟨_, by rw [← ht, cont, List.append_assoc], rfl⟩
  obtain ⟨e, hR⟩ := e
  rw [headE_eq] at e
  have h1 := hF [] m.kind (Wire.encI m.fro ++ (Wire.encI m.to ++ (Wire.encI m.seq ++ (Wire.encI m.time ++ R)))) (by rw [e]; simp) hm.kind
  have h2 := hF (Wire.encI m.kind) m.fro (Wire.encI m.to ++ (Wire.encI m.seq ++ (Wire.encI m.time ++ R))) (by rw [e]; simp) hm.fro
  have h3 := hF (Wire.encI m.kind ++ Wire.encI m.fro) m.to (Wire.encI m.seq ++ (Wire.encI m.time ++ R)) (by rw [e]; simp) hm.to
  have h4 := hF (Wire.encI m.kind ++ Wire.encI m.fro ++ Wire.encI m.to) m.seq (Wire.encI m.time ++ R) (by rw [e]; simp) hm.seq
  have h5 := hF (Wire.encI m.kind ++ Wire.encI m.fro ++ Wire.encI m.to ++ Wire.encI m.seq) m.time R (by rw [e]; simp) hm.time
  simp only [List.length_nil, List.nil_append] at h1
  rw [show (((0 : Nat) : Int)) = 0 from rfl] at h1
  generalize hH : Wire.encI m.kind ++ Wire.encI m.fro ++ Wire.encI m.to ++ Wire.encI m.seq ++ Wire.encI m.time = H at h5
  have eH : t = H ++ R := by rw [e, ← hH]; simp
  cases hc : carB m.kind with
  | true =>
    have hk := car_not_rep hc
    rw [hc, hk] at hR
    simp only [if_true, Bool.false_eq_true, if_false, List.append_nil] at hR
    have h6 := authG_fwd hF (stepC_fwd t 128 (by omega)) (stepC_fwd t 24 (by omega)) m hm hp hl v1 v2 H [] (by rw [eH, hR]; simp)
    obtain ⟨w1, w2, w3, w4, w5⟩ := v4 hk
    have eL : ((H ++ authE m).length : Int) = (t.length : Int) := by rw [eH, hR]
    unfold parseM
    simp only [h1, h2, h3, h4, h5, hc, hk, if_true, Bool.false_eq_true, if_false, parseA_eq]
    rw [show ((128 : Int)) = ((128 : Nat) : Int) from rfl, show ((24 : Int)) = ((24 : Nat) : Int) from rfl, h6, eL]
    clear h1 h2 h3 h4 h5 h6 ht hH e hR eH
    cases m; simp only at w1 w2 w3 w4 w5; subst w1 w2 w3 w4 w5; rfl
  | false =>
    obtain ⟨u1, u2, u3, u4⟩ := v3 hc
    cases hk : m.kind == 1 with
    | true =>
      rw [hc, hk] at hR
      simp only [if_true, Bool.false_eq_true, if_false, List.nil_append] at hR
      rw [repE_eq] at hR
      rw [hR] at eH
      have g1 := hF H m.min (Wire.encI m.speed ++ (Wire.encI m.mode ++ (Wire.encI m.acc ++ Wire.encB m.whole))) (by rw [eH]) hm.min
      have g2 := hF (H ++ Wire.encI m.min) m.speed (Wire.encI m.mode ++ (Wire.encI m.acc ++ Wire.encB m.whole)) (by rw [eH]; simp) hm.speed
      have g3 := hF (H ++ Wire.encI m.min ++ Wire.encI m.speed) m.mode (Wire.encI m.acc ++ Wire.encB m.whole) (by rw [eH]; simp) hm.mode
      have g4 := hF (H ++ Wire.encI m.min ++ Wire.encI m.speed ++ Wire.encI m.mode) m.acc (Wire.encB m.whole) (by rw [eH]; simp) hm.acc
      have g5 := Wire.takeB_enc (H ++ Wire.encI m.min ++ Wire.encI m.speed ++ Wire.encI m.mode ++ Wire.encI m.acc) [] m.whole
      have e5 : H ++ Wire.encI m.min ++ Wire.encI m.speed ++ Wire.encI m.mode ++ Wire.encI m.acc ++ Wire.encB m.whole ++ [] = t := by rw [eH]; simp
      rw [e5] at g5
      have eL : ((H ++ Wire.encI m.min ++ Wire.encI m.speed ++ Wire.encI m.mode ++ Wire.encI m.acc).length : Int) + 1 = (t.length : Int) := by
        rw [← e5]
        have : (Wire.encB m.whole).length = 1 := by cases m.whole <;> rfl
        simp only [List.append_nil, List.length_append, this]
        omega
      unfold parseM parseR
      simp only [h1, h2, h3, h4, h5, hc, hk, if_true, Bool.false_eq_true, if_false, g1, g2, g3, g4]
      simp only [stepT, g5, and_self, if_true, eL]
      cases m; simp only at u1 u2 u3 u4; subst u1 u2 u3 u4; rfl
    | false =>
      obtain ⟨w1, w2, w3, w4, w5⟩ := v4 hk
      rw [hc, hk] at hR
      simp only [Bool.false_eq_true, if_false, List.append_nil] at hR
      have eL : (H.length : Int) = (t.length : Int) := by rw [eH, hR]; simp
      unfold parseM
      simp only [h1, h2, h3, h4, h5, hc, hk, Bool.false_eq_true, if_false, eL]
      clear h1 h2 h3 h4 h5 ht hH e hR eH
      cases m; simp only at w1 w2 w3 w4 w5 u1 u2 u3 u4; subst w1 w2 w3 w4 w5 u1 u2 u3 u4; rfl
/-! ### What is read without fault is an encoding -/
theorem stepI_part {t : List UInt8} {s : Int × Bool} (h : (stepI t s).2.2 = false) : s.2 = false ∧ Part t s.1 (stepI t s).2.1 (Wire.encI (stepI t s).1) := by
  unfold stepI at h ⊢
  split at h
  · rename_i hc
    rw [if_pos hc]
    exact ⟨hc.1, Wire.takeI_part hc.2⟩
  · simp at h
theorem stepT_part {t : List UInt8} {s : Int × Bool} (h : (stepT t s).2.2 = false) : s.2 = false ∧ Part t s.1 (stepT t s).2.1 (Wire.encB (stepT t s).1) := by
  unfold stepT at h ⊢
  split at h
  · rename_i hc
    rw [if_pos hc]
    exact ⟨hc.1, Wire.takeB_part hc.2⟩
  · simp at h
theorem stepC_part {t : List UInt8} {most : Int} {s : Int × Bool} (h : (stepC most t s).2.2 = false) : s.2 = false ∧ Part t s.1 (stepC most t s).2.1 (Wire.enc (stepC most t s).1) := by
  unfold stepC at h ⊢
  split at h
  · rename_i hc
    rw [if_pos hc]
    exact ⟨hc.1, Wire.takeC_part hc.2⟩
  · simp at h
theorem part_none {t : List UInt8} {p : Int} (h0 : 0 ≤ p) (h1 : p ≤ t.length) : Part t p p [] := ⟨h0, by omega, h1, by rw [List.drop_eq_nil_iff]; simp; omega⟩
theorem segN_part {t : List UInt8} : ∀ (n : Nat) (s : Int × Bool) (acc : List Seg), 0 ≤ s.1 → s.1 ≤ t.length → (segN (stepI t) n s acc).2.2 = false → s.2 = false ∧ ∃ L, (segN (stepI t) n s acc).1 = acc ++ L ∧ Part t s.1 (segN (stepI t) n s acc).2.1 (segsE L)
  | 0, s, acc, h0, h1, h => ⟨h, [], by simp [segN], part_none h0 h1⟩
  | n + 1, s, acc, h0, h1, h => by
    rw [segN] at h ⊢
    generalize e4 : stepI t (stepI t (stepI t (stepI t s).2).2).2 = r4 at h ⊢
    have hb : 0 ≤ r4.2.1 ∧ r4.2.1 ≤ t.length ∨ r4.2.2 = true := by
      cases hr : r4.2.2 with
      | true => exact .inr rfl
      | false =>
        have := stepI_part (t := t) (s := (stepI t (stepI t (stepI t s).2).2).2) (by rw [e4]; exact hr)
        rw [e4] at this
        exact .inl ⟨Int.le_trans this.2.1 this.2.2.1, this.2.2.2.1⟩
    have hst : ∀ (m : Nat) (s : Int × Bool) (acc : List Seg), s.2 = true → (segN (stepI t) m s acc).2.2 = true := by
      intro m
      induction m with
      | zero => intro s acc h; exact h
      | succ m ih =>
        intro s acc h
        rw [segN]
        refine ih _ _ ?_
        simp [stepI, h]
    rcases hb with ⟨b0, b1⟩ | hb
    · obtain ⟨k1, L, k2, k3⟩ := segN_part n r4.2 _ b0 b1 h
      have p4 := stepI_part (t := t) (s := (stepI t (stepI t (stepI t s).2).2).2) (by rw [e4]; exact k1)
      have p3 := stepI_part p4.1
      have p2 := stepI_part p3.1
      have p1 := stepI_part p2.1
      rw [e4] at p4
      refine ⟨p1.1, ((stepI t s).1, (stepI t (stepI t s).2).1, (stepI t (stepI t (stepI t s).2).2).1, r4.1) :: L, ?_, ?_⟩
      · rw [k2]; simp only [List.append_assoc, List.singleton_append]
      · have := part_join p1.2 (part_join p2.2 (part_join p3.2 (part_join p4.2 k3)))
        have e : segsE (((stepI t s).1, (stepI t (stepI t s).2).1, (stepI t (stepI t (stepI t s).2).2).1, r4.1) :: L) = Wire.encI (stepI t s).1 ++ (Wire.encI (stepI t (stepI t s).2).1 ++ (Wire.encI (stepI t (stepI t (stepI t s).2).2).1 ++ (Wire.encI r4.1 ++ segsE L))) := by
          show segE _ ++ segsE L = _
          rw [segE_eq]; simp
        rw [e]
        exact this
    · rw [hst n _ _ hb] at h
      cases h
theorem lnkN_part {t : List UInt8} : ∀ (n : Nat) (s : Int × Bool) (acc : List Lnk), 0 ≤ s.1 → s.1 ≤ t.length → (lnkN (stepI t) n s acc).2.2 = false → s.2 = false ∧ ∃ L, (lnkN (stepI t) n s acc).1 = acc ++ L ∧ Part t s.1 (lnkN (stepI t) n s acc).2.1 (lnksE L)
  | 0, s, acc, h0, h1, h => ⟨h, [], by simp [lnkN], part_none h0 h1⟩
  | n + 1, s, acc, h0, h1, h => by
    rw [lnkN] at h ⊢
    generalize e4 : stepI t (stepI t s).2 = r4 at h ⊢
    have hb : 0 ≤ r4.2.1 ∧ r4.2.1 ≤ t.length ∨ r4.2.2 = true := by
      cases hr : r4.2.2 with
      | true => exact .inr rfl
      | false =>
        have := stepI_part (t := t) (s := (stepI t s).2) (by rw [e4]; exact hr)
        rw [e4] at this
        exact .inl ⟨Int.le_trans this.2.1 this.2.2.1, this.2.2.2.1⟩
    have hst : ∀ (m : Nat) (s : Int × Bool) (acc : List Lnk), s.2 = true → (lnkN (stepI t) m s acc).2.2 = true := by
      intro m
      induction m with
      | zero => intro s acc h; exact h
      | succ m ih =>
        intro s acc h
        rw [lnkN]
        refine ih _ _ ?_
        simp [stepI, h]
    rcases hb with ⟨b0, b1⟩ | hb
    · obtain ⟨k1, L, k2, k3⟩ := lnkN_part n r4.2 _ b0 b1 h
      have p4 := stepI_part (t := t) (s := (stepI t s).2) (by rw [e4]; exact k1)
      have p1 := stepI_part p4.1
      rw [e4] at p4
      refine ⟨p1.1, ((stepI t s).1, r4.1) :: L, ?_, ?_⟩
      · rw [k2]; simp only [List.append_assoc, List.singleton_append]
      · have := part_join p1.2 (part_join p4.2 k3)
        have e : lnksE (((stepI t s).1, r4.1) :: L) = Wire.encI (stepI t s).1 ++ (Wire.encI r4.1 ++ lnksE L) := by
          show lnkE _ ++ lnksE L = _
          rw [lnkE_eq]; simp
        rw [e]
        exact this
    · rw [hst n _ _ hb] at h
      cases h
theorem segN_sticky {t : List UInt8} : ∀ (m : Nat) (s : Int × Bool) (acc : List Seg), s.2 = true → (segN (stepI t) m s acc).2.2 = true
  | 0, _, _, h => h
  | m + 1, s, acc, h => by
    rw [segN]
    exact segN_sticky m _ _ (by simp [stepI, h])
theorem lnkN_sticky {t : List UInt8} : ∀ (m : Nat) (s : Int × Bool) (acc : List Lnk), s.2 = true → (lnkN (stepI t) m s acc).2.2 = true
  | 0, _, _, h => h
  | m + 1, s, acc, h => by
    rw [lnkN]
    exact lnkN_sticky m _ _ (by simp [stepI, h])
theorem part_in {t c : List UInt8} {p q : Int} (h : Part t p q c) : 0 ≤ q ∧ q ≤ t.length := ⟨Int.le_trans h.1 h.2.1, h.2.2.1⟩
theorem parseA_part {t : List UInt8} {s : Int × Bool} (h : (parseA t s).2.2 = false) :
    s.2 = false ∧ Part t s.1 (parseA t s).2.1 (Wire.encI (parseA t s).1.1 ++ (Wire.encI (parseA t s).1.2.1 ++ (Wire.enc (parseA t s).1.2.2.1.length ++ (segsE (parseA t s).1.2.2.1 ++ (Wire.enc (parseA t s).1.2.2.2.length ++ lnksE (parseA t s).1.2.2.2))))) := by
  unfold parseA at h ⊢
  simp only [] at h ⊢
  generalize e2 : stepI t (stepI t s).2 = r2 at h ⊢
  generalize e3 : stepC 128 t r2.2 = n at h ⊢
  generalize e4 : segN (stepI t) n.1 n.2 [] = p at h ⊢
  generalize e5 : stepC 24 t p.2 = k at h ⊢
  generalize e6 : lnkN (stepI t) k.1 k.2 [] = l at h ⊢
  have hk : k.2.2 = false := by
    cases hk : k.2.2 with
    | false => rfl
    | true => rw [← e6, lnkN_sticky _ _ _ hk] at h; cases h
  have p5 := stepC_part (t := t) (most := 24) (s := p.2) (by rw [e5]; exact hk)
  have hn : n.2.2 = false := by
    cases hn : n.2.2 with
    | false => rfl
    | true =>
      have := p5.1
      rw [← e4, segN_sticky _ _ _ hn] at this; cases this
  have p3 := stepC_part (t := t) (most := 128) (s := r2.2) (by rw [e3]; exact hn)
  have p2 := stepI_part (t := t) (s := (stepI t s).2) (by rw [e2]; exact p3.1)
  have p1 := stepI_part p2.1
  rw [e3] at p3
  rw [e5] at p5
  rw [e2] at p2
  obtain ⟨_, L, q1, q2⟩ := segN_part n.1 n.2 [] (part_in p3.2).1 (part_in p3.2).2 (by rw [e4]; exact p5.1)
  obtain ⟨_, M, q3, q4⟩ := lnkN_part k.1 k.2 [] (part_in p5.2).1 (part_in p5.2).2 (by rw [e6]; exact h)
  rw [e4] at q1 q2
  rw [e6] at q3 q4
  have hL : p.1.length = n.1 := by rw [← e4, segN_len]; simp
  have hM : l.1.length = k.1 := by rw [← e6, lnkN_len]; simp
  rw [List.nil_append] at q1 q3
  rw [← q1] at q2
  rw [← q3] at q4
  rw [hL, hM]
  exact ⟨p1.1, part_join p1.2 (part_join p2.2 (part_join p3.2 (part_join q2 (part_join p5.2 q4))))⟩
theorem part_whole {t c : List UInt8} (h : Part t 0 t.length c) : c = t := by
  have := h.2.2.2
  simpa using this.symm
theorem part_nil {t c : List UInt8} {p q : Int} (h : Part t p q c) : Part t p q (c ++ []) := by simpa using h
/-- A message that is read without fault to the end of a text has this text as its contents. -/
theorem parse_exact {t : List UInt8} (h1 : (parseM t (0, false)).2.2 = false) (h2 : (parseM t (0, false)).2.1 = t.length) : cont (parseM t (0, false)).1 = t := by
  refine part_whole (t := t) ?_
  rw [← h2]
  clear h2
  unfold parseM at h1 ⊢
  simp only [] at h1 ⊢
  generalize e1 : stepI t (0, false) = r1 at h1 ⊢
  generalize e2 : stepI t r1.2 = r2 at h1 ⊢
  generalize e3 : stepI t r2.2 = r3 at h1 ⊢
  generalize e4 : stepI t r3.2 = r4 at h1 ⊢
  generalize e5 : stepI t r4.2 = r5 at h1 ⊢
  have key : ∀ {q : Int} {c : List UInt8}, r5.2.2 = false → Part t r5.2.1 q c → Part t 0 q (Wire.encI r1.1 ++ (Wire.encI r2.1 ++ (Wire.encI r3.1 ++ (Wire.encI r4.1 ++ (Wire.encI r5.1 ++ c))))) := by
    intro q c h k
    have p5 := stepI_part (t := t) (s := r4.2) (by rw [e5]; exact h)
    have p4 := stepI_part (t := t) (s := r3.2) (by rw [e4]; exact p5.1)
    have p3 := stepI_part (t := t) (s := r2.2) (by rw [e3]; exact p4.1)
    have p2 := stepI_part (t := t) (s := r1.2) (by rw [e2]; exact p3.1)
    have p1 := stepI_part (t := t) (s := (0, false)) (by rw [e1]; exact p2.1)
    rw [e5] at p5
    rw [e4] at p4
    rw [e3] at p3
    rw [e2] at p2
    rw [e1] at p1
    exact part_join p1.2 (part_join p2.2 (part_join p3.2 (part_join p4.2 (part_join p5.2 k))))
  have hin : r5.2.2 = false → 0 ≤ r5.2.1 ∧ r5.2.1 ≤ t.length := fun h => by
    have p5 := stepI_part (t := t) (s := r4.2) (by rw [e5]; exact h)
    rw [e5] at p5
    exact part_in p5.2
  cases hc : carB r1.1 with
  | true =>
    have hk := car_not_rep hc
    rw [hc, hk] at h1
    simp only [if_true, Bool.false_eq_true, if_false] at h1
    have pa := parseA_part h1
    have := key pa.1 pa.2
    simp only [hc, hk, if_true, Bool.false_eq_true, if_false, cont, headE_eq, authE, Wire.encIs]
    simpa using this
  | false =>
    cases hk : r1.1 == 1 with
    | true =>
      rw [hc, hk] at h1
      simp only [if_true, Bool.false_eq_true, if_false, parseR] at h1
      have p5 := stepT_part h1
      have p4 := stepI_part p5.1
      have p3 := stepI_part p4.1
      have p2 := stepI_part p3.1
      have p1 := stepI_part p2.1
      have := key p1.1 (part_join p1.2 (part_join p2.2 (part_join p3.2 (part_join p4.2 p5.2))))
      simp only [hc, hk, if_true, Bool.false_eq_true, if_false, cont, headE_eq, repE_eq, parseR]
      simpa using this
    | false =>
      rw [hc, hk] at h1
      simp only [Bool.false_eq_true, if_false] at h1
      have := key h1 (part_none (hin h1).1 (hin h1).2)
      simp only [hc, hk, Bool.false_eq_true, if_false, cont, headE_eq]
      simpa using this
/-! ### The laws -/
theorem openV_sealed (l : List UInt8) : openV (Crc.sealed l) = (bs l, 0) := by
  unfold openV
  rw [if_neg (by rw [Crc.sealed_length]; omega), if_pos (by rw [Crc.body_sealed]), Crc.body_sealed]
/-- A valid message is decoded from its encoding. -/
theorem dec_enc {m : Msg} (hv : validB m = true) (hm : m.Ok) (hp : ∀ s ∈ m.prof, Seg.ok s) (hl : ∀ s ∈ m.links, Lnk.ok s) : decP (encM m) = (m, 0) := by
  have h := parse_cont hv hm hp hl
  unfold decP encM
  rw [if_pos hv, openV_sealed, Crc.body_sealed, h]
  simp [hv]
/-- What is decoded is valid, and the text is its encoding. -/
theorem dec_exact {s : List UInt8} (h : (decP s).2 = 0) : validB (decP s).1 = true ∧ encM (decP s).1 = s := by
  unfold decP at h ⊢
  split at h
  · rename_i ho; exact absurd h ho
  · rename_i ho
    rw [if_neg ho]
    split at h
    · simp at h
    · rename_i hb
      rw [if_neg hb]
      simp only [not_or, Bool.not_eq_true, ne_eq, Decidable.not_not, Bool.not_eq_false] at hb
      have he := parse_exact hb.1 hb.2.1
      refine ⟨hb.2.2, ?_⟩
      show encM (parseM (Crc.body s) (0, false)).1 = s
      unfold encM
      rw [if_pos hb.2.2, he]
      exact (openV_ok (by simpa using ho)).2.symm
theorem dec_err (s : List UInt8) : (decP s).2 = 0 ∨ (decP s).1 = Msg.zero := by
  unfold decP
  split
  · exact .inr rfl
  · split
    · exact .inr rfl
    · exact .inl rfl
theorem decP_ok (s : List UInt8) : (decP s).1.Ok ∧ (∀ x ∈ (decP s).1.prof, Seg.ok x) ∧ (∀ x ∈ (decP s).1.links, Lnk.ok x) := by
  have hz : Msg.zero.Ok ∧ (∀ x ∈ Msg.zero.prof, Seg.ok x) ∧ (∀ x ∈ Msg.zero.links, Lnk.ok x) := ⟨⟨i64n_0, i64n_0, i64n_0, i64n_0, i64n_0, i64n_0, i64n_0, i64n_0, i64n_0, i64n_0, i64n_0, by simp [Msg.zero], by simp [Msg.zero]⟩, by simp [Msg.zero], by simp [Msg.zero]⟩
  unfold decP
  split
  · exact hz
  · split
    · exact hz
    · exact parseM_ok _ _
/-! ### More: lengths, encodings that differ, an encoding that was changed -/
theorem seg_oks {w : World} {B : Nat} {A : Option Addr} {l : List Seg} (h : RdS cSeg w B A l) : ∀ s ∈ l, Seg.ok s := by
  intro s hs
  obtain ⟨i, hi, rfl⟩ := List.getElem_of_mem hs
  obtain ⟨_, _, _, _, h3, _⟩ := seg_at h hi
  exact h3
theorem lnk_oks {w : World} {B : Nat} {A : Option Addr} {l : List Lnk} (h : RdS cLnk w B A l) : ∀ s ∈ l, Lnk.ok s := by
  intro s hs
  obtain ⟨i, hi, rfl⟩ := List.getElem_of_mem hs
  obtain ⟨_, _, _, _, h3, _⟩ := lnk_at h hi
  exact h3
theorem encI_le {n : Int} (h : I64n n) : (Wire.encI n).length ≤ 10 := (Wire.encI_length n h).2
theorem enc_le {n : Nat} (h : n < 18446744073709551616) : (Wire.enc n).length ≤ 10 := (Wire.enc_length n h).2
theorem segsE_le {l : List Seg} (h : ∀ s ∈ l, Seg.ok s) : (segsE l).length ≤ 100 * l.length := flat_len segE l fun s hs => segE_len (h s hs)
theorem lnksE_le {l : List Lnk} (h : ∀ s ∈ l, Lnk.ok s) : (lnksE l).length ≤ 100 * l.length := flat_len lnkE l fun s hs => lnkE_len (h s hs)
theorem encM_len {m : Msg} (hv : validB m = true) (hm : m.Ok) (hp : ∀ s ∈ m.prof, Seg.ok s) (hl : ∀ s ∈ m.links, Lnk.ok s) : 5 ≤ (encM m).length ∧ (encM m).length ≤ 60000 := by
  obtain ⟨v1, v2, _, _⟩ := valid_parts hv
  have p := segsE_le hp
  have q := lnksE_le hl
  have h0 := encI_pos _ hm.kind
  have h1 := encI_le hm.kind
  have h2 := encI_le hm.fro
  have h3 := encI_le hm.to
  have h4 := encI_le hm.seq
  have h5 := encI_le hm.time
  have h6 := encI_le hm.aseq
  have h7 := encI_le hm.aend
  have h8 := encI_le hm.min
  have h9 := encI_le hm.speed
  have h10 := encI_le hm.mode
  have h11 := encI_le hm.acc
  have h12 := enc_le (show m.prof.length < 18446744073709551616 by omega)
  have h13 := enc_le (show m.links.length < 18446744073709551616 by omega)
  have h14 : (Wire.encB m.whole).length ≤ 1 := by cases m.whole <;> decide
  have hH : 1 ≤ (headE m).length ∧ (headE m).length ≤ 50 := by rw [headE_eq]; simp only [List.length_append]; omega
  have hA : (authE m).length ≤ 40 + 12800 + 2400 := by
    have e : (Wire.encIs [m.aseq, m.aend]).length = (Wire.encI m.aseq).length + (Wire.encI m.aend).length := by simp [Wire.encIs]
    unfold authE
    simp only [List.length_append, e]
    omega
  have hR : (repE m).length ≤ 41 := by rw [repE_eq]; simp only [List.length_append]; omega
  have e : (encM m).length = (cont m).length + 4 := by unfold encM; rw [if_pos hv, Crc.sealed_length]
  rw [e]
  unfold cont
  simp only [List.length_append]
  have a1 : (if carB m.kind = true then authE m else []).length ≤ 40 + 12800 + 2400 := by split <;> simp [hA]
  have a2 : (if (m.kind == 1) = true then repE m else []).length ≤ 41 := by split <;> simp [hR]
  omega
/-- Messages that differ have different encodings. -/
theorem enc_inj {m n : Msg} (hv : validB m = true) (hm : m.Ok) (hp : ∀ s ∈ m.prof, Seg.ok s) (hl : ∀ s ∈ m.links, Lnk.ok s) (hv' : validB n = true) (hn : n.Ok) (hp' : ∀ s ∈ n.prof, Seg.ok s) (hl' : ∀ s ∈ n.links, Lnk.ok s) (h : encM n = encM m) : m = n := by
  have h1 := dec_enc hv hm hp hl
  rw [← h, dec_enc hv' hn hp' hl'] at h1
  exact (Prod.mk.inj h1).1.symm
/-- An encoding with one byte changed is not accepted. -/
theorem changed_dec {m : Msg} (hv : validB m = true) {i : Nat} {c : UInt8} (hi : i < (encM m).length) (hc : (encM m)[i] ≠ c) (h5 : 5 ≤ (encM m).length) : decP ((encM m).set i c) = (Msg.zero, 6) := by
  have e : encM m = Crc.sealed (cont m) := by unfold encM; rw [if_pos hv]
  have ho : Crc.opens ((encM m).set i c) = false := by
    have := Crc.changed_not_sealed (cont m) i c (by rw [← e]; exact hi) (by simpa only [← e] using hc)
    rwa [← e] at this
  have h6 : (openV ((encM m).set i c)).2 = 6 := by
    unfold openV
    rw [if_neg (by rw [List.length_set]; omega)]
    have hne : ¬ (encM m).set i c = Crc.sealed (Crc.body ((encM m).set i c)) := by
      intro hh
      unfold Crc.opens at ho
      rw [← hh] at ho
      simp only [beq_self_eq_true, Bool.and_true, decide_eq_false_iff_not, List.length_set] at ho
      omega
    rw [if_neg hne]
  unfold decP
  rw [if_pos (by rw [h6]; decide), h6]
end Go.Proofs.Ytlpkkcodmoklaaa
