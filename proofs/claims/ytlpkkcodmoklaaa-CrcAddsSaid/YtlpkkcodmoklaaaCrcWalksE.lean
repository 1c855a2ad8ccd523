/- The walk of the reference's Chain. -/
import Derived.Test.YtlpkkcodmoklaaaCrcWalksD
import Derived.Test.YtlpkkcodmoklaaaOwn
namespace Go.Proofs.Ytlpkkcodmoklaaa
open Go.RowKit
attribute [local go_sem] bs_size bs_get bs_append bs_extract bs_toList bs_nil
theorem info5b : (Try.prog.info? 5).map (fun i => (i.zero, i.size, i.bytes)) = some (some (.int .u8 0), 1, 1) := by kernel_rfl
/-- What the reference has gathered of the two numbers. -/
def pre (h n : Nat) : Nat → List UInt8
  | 0 => []
  | 1 => Crc.le8 h
  | _ => Crc.le8 h ++ Crc.le8 n
def num (h n : Nat) : Nat → Nat
  | 0 => h
  | _ => n
theorem pre_succ (h n k : Nat) (hk : k < 2) : pre h n (k + 1) = pre h n k ++ Crc.le8 (num h n k) := by
  match k, hk with
  | 0, _ => rfl
  | 1, _ => rfl
theorem pre_length (h n k : Nat) : (pre h n k).length ≤ 16 := by
  match k with
  | 0 => simp [pre]
  | 1 => simp [pre, Crc.le8_length]
  | k + 2 => simp [pre, Crc.le8_length]
set_option maxRecDepth 100000 in
theorem refChain_any (h : Nat) (l : List UInt8) (w : World) (hs : l.length ≤ 100000) (hh : h < 18446744073709551616) :
    Calls Try.prog 28 #[.int .u64 h, .string (bs l)] w fun e w' => e = .returned (.int .u64 (Crc.chain h l : Nat)) ∧ Below w.heap.size w w' := by
  obtain ⟨i0, hi, hz0, hz1, hz2⟩ := info_parts info5b
  go_enter Try.func28, Try.ntmps28
  go_wp2_with fail
  obtain ⟨w1, hw1⟩ : ∃ w1, w1 = w.alloc (.cells #[.int .u64 (h : Int), .int .u64 (l.length : Int)] 33) := ⟨_, rfl⟩
  rw [← hw1]
  have hbw : Below w.heap.size w w1 := by rw [hw1]; exact (Below.refl _ _).alloc (Nat.le_refl _) _
  have hsz : w1.heap.size = w.heap.size + 1 := by rw [hw1]; simp
  have hcl : ∀ k, k < 2 → w1.cell? ⟨w.heap.size, k, none⟩ = some (.int .u64 (num h l.length k : Nat)) := by
    intro k hk
    rw [hw1, World.cell?_alloc_at _ _ _ _ rfl]
    match k, hk with
    | 0, _ => rfl
    | 1, _ => rfl
  clear hw1
  have HZ := Lib.hid hsz
  have hsz' : w.heap.size < w1.heap.size := by omega
  clear hsz
  go_loopw [5, 18] (fun v i wr => ∃ k : Nat, k ≤ 2 ∧ i = .int .i64 k ∧ OwnB wr w1.heap.size 5 v (pre h l.length k) ∧ Below w1.heap.size w1 wr) (fun _ i _ => (2 - intOf i).toNat)
  case atStart => exact ⟨0, by omega, rfl, OwnB.nil _ _ _, Below.refl _ _⟩
  case round =>
    obtain ⟨k, hk, rfl, hown, hbr⟩ := hrel
    by_cases hlt : k < 2
    · have hck := (hbr.cell (p := ⟨w.heap.size, k, none⟩) (by simpa using hsz')).trans (hcl k hlt)
      have hp := pre_succ h l.length k hlt
      have hpl := pre_length h l.length k
      have HP := Lib.hid hp
      have hn : num h l.length k < 18446744073709551616 := by
        match k, hlt with
        | 0, _ => exact hh
        | 1, _ => show l.length < _; omega
      clear hp hcl
      generalize num h l.length k = n at hck HP hn
      generalize pre h l.length k = p at hown HP hpl
      have hd2 : decide ((k : Int) < 2) = true := by simp; omega
      go_wp2_with fail
      obtain ⟨wo, hwo⟩ : ∃ wo : World, wo = wr := ⟨_, rfl⟩
      rw [← hwo] at hown hbr hck ⊢
      clear hwo
      go_loopw [5, 7, 8] (fun v m i wr => ∃ j : Nat, j ≤ 8 ∧ i = .int .i64 j ∧ m = .int .u64 ((n / 256 ^ j : Nat) : Int) ∧ OwnB wr w1.heap.size 5 v (p ++ (Crc.le8 n).take j) ∧ Below w1.heap.size w1 wr) (fun _ _ i _ => (8 - intOf i).toNat)
      case atStart => exact ⟨0, by omega, rfl, by simp, by simpa using hown, hbr⟩
      case round =>
        obtain ⟨j, hj, rfl, rfl, hown, hbr⟩ := hrel
        by_cases hj8 : j < 8
        · have hnx : n / 256 ^ (j + 1) = n / 256 ^ j / 256 := by rw [Nat.div_div_eq_div_mul, Nat.pow_succ]
          have hg := Crc.le8_get n j hj8
          have htk : (Crc.le8 n).take (j + 1) = (Crc.le8 n).take j ++ [UInt8.ofNat (n / 256 ^ j)] := by rw [List.take_add_one, hg]; rfl
          have hqn : n / 256 ^ j < 18446744073709551616 := Nat.lt_of_le_of_lt (Nat.div_le_self _ _) hn
          have htl : ((Crc.le8 n).take j).length ≤ 8 := by rw [List.length_take, Crc.le8_length]; omega
          have HN := Lib.hid hnx
          have HT := Lib.hid htk
          clear hnx hg htk
          generalize n / 256 ^ j = q at hqn HN HT ⊢
          generalize (Crc.le8 n).take j = t at hown HT htl
          go_wp2_with (at_builtin; refine wpList_append_u8 _ rfl (.tmp 26) (.tmp 29) 30 rfl w1.heap.size 5 i0 Try.underlying30 hi hz0 hz1 hz2 _ _ rfl hown (UInt8.ofNat q) _ (u8_of q).symm _ rfl (by rw [List.length_append]; omega) hbr.size ?_; intro v' w' hown' hkeep)
          go_roundw
          case rel => exact ⟨j + 1, by omega, by go_num, by rw [HN.out]; simp, by rw [HT.out, ← List.append_assoc]; exact hown', hkeep _ _ (Nat.le_refl _) hbr⟩
          case measure => simp [intOf] <;> omega
        · obtain rfl : j = 8 := by omega
          rw [List.take_of_length_le (by rw [Crc.le8_length]; omega), ← HP.out] at hown
          go_wp2_with fail
          go_roundw
          case rel => exact ⟨k + 1, by omega, by go_num, hown, hbr⟩
          case measure => simp [intOf] <;> omega
    · obtain rfl : k = 2 := by omega
      have hpl : (pre h l.length 2).length = 16 := by simp [pre, Crc.le8_length]
      have hch : Crc.chain h l = Crc.addAll 14695981039346656037 (pre h l.length 2 ++ l) := by rw [Crc.chain]; rfl
      have HC := Lib.hid hch
      clear hch hcl
      generalize pre h l.length 2 = p at hown hpl HC
      have hne : p ++ l ≠ [] := by intro e; rw [List.append_eq_nil_iff] at e; rw [e.1] at hpl; simp at hpl
      have hpl' : p.length ≤ 16 := by omega
      clear hpl
      go_wp2_with (at_builtin; refine wpList_append_str _ rfl (.tmp 34) (.tmp 35) 30 9 rfl w1.heap.size 5 i0 Try.underlying30 Try.underlying9 hi hz0 hz1 hz2 _ _ rfl hown l rfl (by omega) hbr.size ?_; intro v' w' hown' hkeep; obtain ⟨g, cap, hv, hcell⟩ := hown'.row hne; rw [hv])
      have hbel := hbw.trans ((hkeep _ _ (Nat.le_refl _) hbr).mono (Nat.le_of_lt hsz'))
      have hml : (p ++ l).length ≤ 200000 := by rw [List.length_append]; omega
      clear hv hown' hown hkeep hbr hne hbw HZ hsz'
      have hm1 : (p ++ l).length ≤ p.length + l.length := by rw [List.length_append]; omega
      have hm2 : p.length + l.length ≤ (p ++ l).length := by rw [List.length_append]; omega
      generalize p ++ l = m at HC hml hcell hm1 hm2 ⊢
      obtain ⟨wz, hwz⟩ : ∃ wz, wz = w' := ⟨_, rfl⟩
      rw [← hwz] at hbel hcell ⊢
      clear hwz
      go_loop [9, 39] (fun r i => ∃ j : Nat, j ≤ m.length ∧ i = .int .i64 j ∧ r = .int .u64 (Crc.addAll 14695981039346656037 (m.take j) : Nat)) (fun _ i => (m.length - intOf i).toNat)
      case atStart => exact ⟨0, by omega, rfl, rfl⟩
      case round =>
        obtain ⟨j, hj, rfl, rfl⟩ := hrel
        have hR := Crc.addAll_lt (m.take j) (r := 14695981039346656037) (by omega)
        by_cases hjl : j < m.length
        · have hts : Crc.addAll 14695981039346656037 (m.take (j + 1)) = Crc.add1 (Crc.addAll 14695981039346656037 (m.take j)) m[j] := by rw [take_snoc m j hjl, Crc.addAll_snoc]
          have hc := hcell j m[j] (List.getElem?_eq_getElem hjl)
          have HT := Lib.hid hts
          clear hts hcell
          generalize Crc.addAll 14695981039346656037 (m.take j) = R at hR HT ⊢
          have hb := Crc.u8_lt m[j]
          generalize m[j] = c at hb HT hc
          have e1 : bits .xor .u64 (R : Nat) (c.toNat : Nat) = ((R ^^^ c.toNat : Nat) : Int) := u64_xor_nat _ _ hR (by omega)
          go_wp2
          go_round
          case rel => exact ⟨j + 1, by omega, by go_num, by rw [HT.out, wrapu64]⟩
          case measure => simp [intOf] <;> omega
        · have hta := take_all m j hjl
          go_wp2
          go_ret
          exact ⟨ret_int (by rw [HC.out, ← hta]), hbel⟩
end Go.Proofs.Ytlpkkcodmoklaaa
