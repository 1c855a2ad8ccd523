/- Encode, of the program and of the reference, for every message. -/
import Derived.Test.YtlpkkcodmoklaaaMsgEncC
import Derived.Test.YtlpkkcodmoklaaaMsgEncE
import Derived.Test.YtlpkkcodmoklaaaMsgWalksE
namespace Go.Proofs.Ytlpkkcodmoklaaa
set_option linter.unusedVariables false
set_option linter.unusedSimpArgs false
open Go.RowKit
attribute [local go_sem] bs_size bs_get bs_append bs_extract bs_toList
theorem encode_any (m : Msg) (A : Option Addr) (c : Nat) (A' : Option Addr) (c' : Nat) (w : World) (ok : m.Ok) (hp : RdS cSeg w w.heap.size A m.prof) (hl : RdS cLnk w w.heap.size A' m.links) :
    Calls Try.prog 61 #[.agg #[.int .i64 m.kind, .int .i64 m.fro, .int .i64 m.to, .int .i64 m.seq, .int .i64 m.time, .int .i64 m.aseq, .int .i64 m.aend, .slice A m.prof.length c, .slice A' m.links.length c', .int .i64 m.min, .int .i64 m.speed, .int .i64 m.mode, .int .i64 m.acc, .bool m.whole]] w fun e w' => e = .returned (.string (bs (encM m))) ∧ Below w.heap.size w w' := by
  cases hv : validB m
  · exact encode_no m A c A' c' w ok hp hl hv
  · cases h1 : m.kind == 1
    · cases h2 : carB m.kind
      · exact encode_rest m A c A' c' w ok hp hl hv h1 h2
      · exact encode_auth m A c A' c' w ok hp hl hv h1 h2
    · have h2 : carB m.kind = false := by
        have : m.kind = 1 := by simpa using h1
        rw [this]; rfl
      exact encode_rep m A c A' c' w ok hp hl hv h1 h2
theorem valid_kind {m : Msg} (hv : validB m = true) : 1 ≤ m.kind ∧ m.kind ≤ 5 := by
  simp [validB, headB, inB] at hv
  omega
theorem contents_any (m : Msg) (A : Option Addr) (c : Nat) (A' : Option Addr) (c' : Nat) (w : World) (ok : m.Ok) (hp : RdS cSeg w w.heap.size A m.prof) (hl : RdS cLnk w w.heap.size A' m.links) (hv : validB m = true) :
    Calls Try.prog 83 #[.agg #[.int .i64 m.kind, .int .i64 m.fro, .int .i64 m.to, .int .i64 m.seq, .int .i64 m.time, .int .i64 m.aseq, .int .i64 m.aend, .slice A m.prof.length c, .slice A' m.links.length c', .int .i64 m.min, .int .i64 m.speed, .int .i64 m.mode, .int .i64 m.acc, .bool m.whole]] w fun e w' => e = .returned (.string (bs (cont m))) ∧ Below w.heap.size w w' := by
  have hk := valid_kind hv
  cases h1 : m.kind == 1
  · have h1' : ¬ m.kind = 1 := by simpa using h1
    cases h2 : carB m.kind
    · have h3 : decide (3 < m.kind) = true := by
        simp [carB] at h2
        rw [decide_eq_true_eq]
        omega
      have := contents_rest m A c A' c' w ok h1 h3
      rwa [show cont m = headE m by simp [cont, h1, h2]]
    · have h3 : decide (3 < m.kind) = false := by
        simp [carB] at h2
        rw [decide_eq_false_iff_not]
        omega
      have hm := valid_lens hv h2
      have := contents_auth m A c A' c' w ok hp hl h1 h3 (by omega)
      rwa [show cont m = headE m ++ authE m by simp [cont, h1, h2]]
  · have h2 : carB m.kind = false := by
      have : m.kind = 1 := by simpa using h1
      rw [this]; rfl
    have := contents_rep m A c A' c' w ok h1
    rwa [show cont m = headE m ++ repE m by simp [cont, h1, h2]]
theorem cont_len {m : Msg} (ok : m.Ok) (hs : ∀ i (hi : i < m.prof.length), Seg.ok m.prof[i]) (ht : ∀ i (hi : i < m.links.length), Lnk.ok m.links[i]) (hv : validB m = true) : (cont m).length ≤ 20000 := by
  have h0 := encIs_len5 (i64_5 ok.kind ok.fro ok.to ok.seq ok.time) (by simp)
  have h1 := encIs_len5 (i64_2 ok.aseq ok.aend) (by simp)
  have h2 := encIs_len5 (i64_4 ok.min ok.speed ok.mode ok.acc) (by simp)
  have h3 : (Wire.encB m.whole).length ≤ 1 := by cases m.whole <;> decide
  have h4 := flat_take_len segE m.prof m.prof.length (Nat.le_refl _) (fun i hi => segE_len (hs i hi))
  have h5 := flat_take_len lnkE m.links m.links.length (Nat.le_refl _) (fun i hi => lnkE_len (ht i hi))
  rw [List.take_length] at h4 h5
  unfold cont headE authE repE segsE lnksE
  cases hc : carB m.kind
  · cases hk : m.kind == 1 <;> simp only [List.length_append, List.length_nil, Bool.false_eq_true, if_true, if_false] <;> omega
  · have hm := valid_lens hv hc
    have h6 := Wire.enc_length m.prof.length (by omega)
    have h7 := Wire.enc_length m.links.length (by omega)
    cases hk : m.kind == 1 <;> simp only [List.length_append, List.length_nil, Bool.false_eq_true, if_true, if_false] <;> omega
set_option maxRecDepth 100000 in
theorem rEncode_any (m : Msg) (A : Option Addr) (c : Nat) (A' : Option Addr) (c' : Nat) (w : World) (ok : m.Ok) (hp : RdS cSeg w w.heap.size A m.prof) (hl : RdS cLnk w w.heap.size A' m.links) :
    Calls Try.prog 62 #[.agg #[.int .i64 m.kind, .int .i64 m.fro, .int .i64 m.to, .int .i64 m.seq, .int .i64 m.time, .int .i64 m.aseq, .int .i64 m.aend, .slice A m.prof.length c, .slice A' m.links.length c', .int .i64 m.min, .int .i64 m.speed, .int .i64 m.mode, .int .i64 m.acc, .bool m.whole]] w fun e w' => e = .returned (.string (bs (encM m))) ∧ Below w.heap.size w w' := by
  have e63 : maxLen ≤ 9223372036854775807 := by decide
  have hlp : m.prof.length ≤ 9223372036854775807 := Nat.le_trans ok.prof e63
  have hll : m.links.length ≤ 9223372036854775807 := Nat.le_trans ok.links e63
  cases hv : validB m
  · have HE := Lib.hid (show encM m = [] by simp [encM, hv])
    have HV := Lib.hid hv
    clear hv
    go_enter Try.func62, Try.ntmps62
    go_wp2_with fail
    refine (rValid_any m A c A' c' _ hlp hll (hp.now (by (repeat' (first | (with_reducible exact Below.refl _ _) | (with_reducible assumption) | (with_reducible refine Below.drewN ?_ _) | (with_reducible refine Below.drew ?_) | (with_reducible refine Below.alloc ?_ ?_ _) | (with_reducible refine Below.setCell ?_ ?_ _) | (with_reducible exact Nat.le_refl _) | (with_reducible exact Below.size (by assumption)) | omega | (simp only [World.size_alloc, World.size_setCell, World.size_drew]; omega) | (simp; done) | (simp; omega))))) (hl.now (by (repeat' (first | (with_reducible exact Below.refl _ _) | (with_reducible assumption) | (with_reducible refine Below.drewN ?_ _) | (with_reducible refine Below.drew ?_) | (with_reducible refine Below.alloc ?_ ?_ _) | (with_reducible refine Below.setCell ?_ ?_ _) | (with_reducible exact Nat.le_refl _) | (with_reducible exact Below.size (by assumption)) | omega | (simp only [World.size_alloc, World.size_setCell, World.size_drew]; omega) | (simp; done) | (simp; omega)))))).mono ?_
    rintro e w1 ⟨rfl, hb1⟩
    have hB1 := bthru (w := w) hb1 (by (repeat' (first | (with_reducible exact Below.refl _ _) | (with_reducible assumption) | (with_reducible refine Below.drewN ?_ _) | (with_reducible refine Below.drew ?_) | (with_reducible refine Below.alloc ?_ ?_ _) | (with_reducible refine Below.setCell ?_ ?_ _) | (with_reducible exact Nat.le_refl _) | (with_reducible exact Below.size (by assumption)) | omega | (simp only [World.size_alloc, World.size_setCell, World.size_drew]; omega) | (simp; done) | (simp; omega))))
    rw [HV.out]
    go_wp2_with fail
    go_ret
    exact ⟨by rw [HE.out]; rfl, hB1⟩
  · have HE := Lib.hid (show encM m = Crc.sealed (cont m) by simp [encM, hv])
    have hcl := cont_len ok hp.oks hl.oks hv
    have HV := Lib.hid hv
    clear hv
    go_enter Try.func62, Try.ntmps62
    go_wp2_with fail
    refine (rValid_any m A c A' c' _ hlp hll (hp.now (by (repeat' (first | (with_reducible exact Below.refl _ _) | (with_reducible assumption) | (with_reducible refine Below.drewN ?_ _) | (with_reducible refine Below.drew ?_) | (with_reducible refine Below.alloc ?_ ?_ _) | (with_reducible refine Below.setCell ?_ ?_ _) | (with_reducible exact Nat.le_refl _) | (with_reducible exact Below.size (by assumption)) | omega | (simp only [World.size_alloc, World.size_setCell, World.size_drew]; omega) | (simp; done) | (simp; omega))))) (hl.now (by (repeat' (first | (with_reducible exact Below.refl _ _) | (with_reducible assumption) | (with_reducible refine Below.drewN ?_ _) | (with_reducible refine Below.drew ?_) | (with_reducible refine Below.alloc ?_ ?_ _) | (with_reducible refine Below.setCell ?_ ?_ _) | (with_reducible exact Nat.le_refl _) | (with_reducible exact Below.size (by assumption)) | omega | (simp only [World.size_alloc, World.size_setCell, World.size_drew]; omega) | (simp; done) | (simp; omega)))))).mono ?_
    rintro e w1 ⟨rfl, hb1⟩
    have hB1 := bthru (w := w) hb1 (by (repeat' (first | (with_reducible exact Below.refl _ _) | (with_reducible assumption) | (with_reducible refine Below.drewN ?_ _) | (with_reducible refine Below.drew ?_) | (with_reducible refine Below.alloc ?_ ?_ _) | (with_reducible refine Below.setCell ?_ ?_ _) | (with_reducible exact Nat.le_refl _) | (with_reducible exact Below.size (by assumption)) | omega | (simp only [World.size_alloc, World.size_setCell, World.size_drew]; omega) | (simp; done) | (simp; omega))))
    have hc1 := bcell hb1
    rw [HV.out]
    go_wp2_with fail
    refine (contents_any m A c A' c' _ ok (hp.now hB1) (hl.now hB1) HV.out).mono ?_
    rintro e w2 ⟨rfl, hb2⟩
    go_wp2_with fail
    refine (refSeal_any _ _ (by omega)).mono ?_
    rintro e w3 ⟨rfl, hb3⟩
    go_wp2_with fail
    go_ret
    exact ⟨by rw [HE.out]; rfl, bthen (bthen hB1 hb2) hb3⟩
end Go.Proofs.Ytlpkkcodmoklaaa
