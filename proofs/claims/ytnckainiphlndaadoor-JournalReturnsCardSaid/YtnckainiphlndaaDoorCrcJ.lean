/- The walks of crc.Chain, crc.Hex and their references. -/
import Derived.Test.YtnckainiphlndaaDoorBaseB
import Derived.Test.YtnckainiphlndaaDoorCrcPlain
import Derived.Test.YtnckainiphlndaaDoorOwn
import Derived.Test.YtnckainiphlndaaDoorRows
namespace Go.Proofs.YtnckainiphlndaaDoor
set_option linter.unusedVariables false
set_option linter.unusedSimpArgs false
open Go.RowKit
attribute [local go_sem] bs_size bs_get bs_append bs_extract bs_toList bs_nil
theorem wrapu64 (R : Nat) (c : UInt8) : IntKind.u64.wrap (((R ^^^ c.toNat : Nat) : Int) * 1099511628211) = ((Crc.add1 R c : Nat) : Int) := by
  unfold Crc.add1
  rw [IntKind.wrap_u64]
  omega
theorem add_any (r : Nat) (l : List UInt8) (w : World) (hs : l.length ≤ maxLen) (hr : r < 18446744073709551616) :
    Calls Tryd.prog 44 #[.int .u64 r, .string (bs l)] w fun e w' => e = .returned (.int .u64 (Crc.addAll r l : Nat)) ∧ w = w' := by
  unfold maxLen at hs
  go_enter Tryd.func44, Tryd.ntmps44
  go_wp2
  go_loop [0, 5] (fun r' i => ∃ k : Nat, k ≤ l.length ∧ i = .int .i64 k ∧ r' = .int .u64 (Crc.addAll r (l.take k) : Nat)) (fun _ i => l.length - (intOf i).toNat)
  case atStart => exact ⟨0, Nat.zero_le _, rfl, rfl⟩
  case round =>
    obtain ⟨k, hk, rfl, rfl⟩ := hrel
    have hR := Crc.addAll_lt (l.take k) (r := r) hr
    by_cases hlt : k < l.length
    · have hts : Crc.addAll r (l.take (k + 1)) = Crc.add1 (Crc.addAll r (l.take k)) l[k] := by rw [take_snoc l k hlt, Crc.addAll_snoc]
      have HT := Lib.hid hts
      clear hts
      generalize Crc.addAll r (l.take k) = R at hR HT ⊢
      have hb := Crc.u8_lt l[k]
      generalize hc : l[k] = c at hb HT
      have e1 : bits .xor .u64 (R : Nat) (c.toNat : Nat) = ((R ^^^ c.toNat : Nat) : Int) := u64_xor_nat _ _ hR (by omega)
      go_wp2
      go_round
      case rel => exact ⟨k + 1, by omega, by go_num, by rw [HT.out, wrapu64]⟩
      case measure => simp [intOf] <;> omega
    · go_wp2
      go_ret
      exact ⟨ret_int (by rw [take_all l k hlt]), rfl⟩
set_option maxRecDepth 100000 in
theorem number_any (n : Nat) (w : World) (_hn : n < 18446744073709551616) :
    Calls Tryd.prog 45 #[.int .u64 n] w fun e w' => e = .returned (.string (bs (Crc.le8 n))) ∧ Below w.heap.size w w' := by
  have hx : (cellsU8 (Crc.le8 n)).length = 8 := by rw [cellsU8_length]; exact Crc.le8_length n
  have hget : ∀ k, k < 8 → (cellsU8 (Crc.le8 n))[k]? = some (.int .u8 ((n : Int) / 2 ^ (8 * k) % 256)) := by
    intro k hk
    rw [cellsU8_get, Crc.le8_get n k hk, Option.map_some, u8_of, pow256]
    simp
  have hcv := conv_row (P := Tryd.prog) w 49 5 9 77 Tryd.underlying49 Tryd.underlying5 Tryd.underlying9 (Crc.le8 n) 8 8 (Crc.le8_length n)
  generalize hl : Crc.le8 n = l at hx hget hcv ⊢
  clear hl
  generalize cellsU8 l = xs at hx hget hcv
  go_enter Tryd.func45, Tryd.ntmps45
  go_wp2
  go_loopw [5] (fun i wr => ∃ k : Nat, k ≤ 8 ∧ i = .int .i64 k ∧ wr = w.alloc (.cells (fillA xs 8 k (.int .u8 0)) 77)) (fun i _ => 8 - (intOf i).toNat)
  case atStart => exact ⟨0, Nat.zero_le _, rfl, rfl⟩
  case round =>
    obtain ⟨k, hk, rfl, rfl⟩ := hrel
    by_cases hlt : k < 8
    · have hv := hget k hlt
      have hset := fillA_set xs 8 k (.int .u8 0) _ hx hlt hv
      have hcell : (fillA xs 8 k (.int .u8 0))[k]? = some (.int .u8 0) := fillA_get xs 8 k _ hx hlt
      go_wp2
      go_roundw
      case rel => exact ⟨k + 1, by omega, by go_num, rfl⟩
      case measure => simp [intOf] <;> omega
    · obtain rfl : k = 8 := by omega
      rw [fillA_all xs 8 _ hx]
      go_wp2
      go_ret
      exact ⟨rfl, (Below.refl _ _).alloc (Nat.le_refl _) _⟩
theorem hexdig (d : Nat) (hd : d < 16) (w : World) : (Instr.index 9 (.string { data := #[48, 49, 50, 51, 52, 53, 54, 55, 56, 57, 97, 98, 99, 100, 101, 102] }) (.int .u64 d)).run Tryd.prog w = .ok (.int .u8 ((Crc.dig d).toNat : Int)) w := by
  rw [run_index_string _ _ _ _ _ Tryd.underlying9]
  rw [dif_pos (by simp [ByteArray.size]; omega)]
  congr 3
  have : ∀ d, d < 16 → ∀ h, ((({ data := #[48, 49, 50, 51, 52, 53, 54, 55, 56, 57, 97, 98, 99, 100, 101, 102] } : ByteArray)[((d : Nat) : Int).toNat]'h) = Crc.dig d) := by decide
  rw [this d hd]
set_option maxRecDepth 100000 in
theorem hex_any (n : Nat) (w : World) (hn : n < 18446744073709551616) :
    Calls Tryd.prog 29 #[.int .u64 n] w fun e w' => e = .returned (.string (bs (Crc.hex n))) ∧ Below w.heap.size w w' := by
  have hx : (cellsU8 (Crc.hex n)).length = 16 := by rw [cellsU8_length]; exact Crc.hex_length n
  have hget : ∀ j, j < 16 → (cellsU8 (Crc.hex n))[15 - j]? = some (.int .u8 ((Crc.dig (n / 16 ^ j % 16)).toNat : Int)) := by
    intro j hj
    have := Crc.hexF_get 16 n j hj
    rw [cellsU8_get, Crc.hex, show 15 - j = 16 - 1 - j by omega, this, Option.map_some]
  have hcv := conv_row (P := Tryd.prog) w 49 5 9 65 Tryd.underlying49 Tryd.underlying5 Tryd.underlying9 (Crc.hex n) 16 16 (Crc.hex_length n)
  generalize hl : Crc.hex n = l at hx hget hcv ⊢
  clear hl
  generalize cellsU8 l = xs at hx hget hcv
  go_enter Tryd.func29, Tryd.ntmps29
  go_wp2
  go_loopw [0, 4] (fun h i wr => ∃ j : Nat, j ≤ 16 ∧ i = .int .i64 (15 - (j : Int)) ∧ h = .int .u64 ((n / 16 ^ j : Nat) : Int) ∧ wr = w.alloc (.cells (fillB xs (16 - j) (.int .u8 0)) 65)) (fun _ i _ => (intOf i + 1).toNat)
  case atStart => exact ⟨0, Nat.zero_le _, rfl, by simp, by rw [Nat.sub_zero, fillB_none xs 16 _ hx]; rfl⟩
  case round =>
    obtain ⟨j, hj, rfl, rfl, rfl⟩ := hrel
    by_cases hlt : j < 16
    · obtain ⟨q, hq⟩ : ∃ q, 16 - j = q + 1 := ⟨15 - j, by omega⟩
      have hv := hget j hlt
      rw [show 15 - j = q by omega] at hv
      have hset := fillB_set xs q (.int .u8 0) _ hv
      have hcell := fillB_get xs q (.int .u8 0)
      have hM : n / 16 ^ j < 18446744073709551616 := Nat.lt_of_le_of_lt (Nat.div_le_self _ _) hn
      have hs : n / 16 ^ (j + 1) = n / 16 ^ j / 16 := by rw [Nat.div_div_eq_div_mul, Nat.pow_succ]
      have HS := Lib.hid hs
      clear hs
      generalize hN : n / 16 ^ j = M at hv hset hM HS ⊢
      clear hN
      have hd : ∀ W, (Instr.index 9 (.string { data := #[48, 49, 50, 51, 52, 53, 54, 55, 56, 57, 97, 98, 99, 100, 101, 102] }) (.int .u64 ((M : Int) % 16))).run Tryd.prog W = .ok (.int .u8 ((Crc.dig (M % 16)).toNat : Int)) W := fun W => by
        rw [show ((M : Int) % 16) = ((M % 16 : Nat) : Int) by omega]
        exact hexdig (M % 16) (by omega) W
      have ha : bits .and .u64 (M : Int) 15 = ((M % 16 : Nat) : Int) := by rw [← nat_mask4]; exact u64_and_nat M 15 hM (by omega)
      rw [hq]
      have hi : (15 : Int) - j = q := by omega
      rw [hi]
      go_wp2
      go_roundw
      case rel => exact ⟨j + 1, by omega, by go_num, by rw [HS.out]; simp, by rw [show 16 - (j + 1) = q by omega]⟩
      case measure => simp [intOf] <;> omega
    · obtain rfl : j = 16 := by omega
      have e1 : fillB xs (16 - 16) (.int .u8 0) = xs.toArray := fillB_all xs _
      have hi : (15 : Int) - ((16 : Nat) : Int) = -1 := by omega
      generalize n / 16 ^ 16 = M
      rw [e1, hi]
      go_wp2
      go_ret
      exact ⟨rfl, (Below.refl _ _).alloc (Nat.le_refl _) _⟩
theorem utf8_dig : ∀ d, d < 16 → Utf8.encode ((Crc.dig d).toNat : Int) = bs [Crc.dig d] := by decide
set_option maxRecDepth 100000 in
theorem refHex_any (n : Nat) (w : World) (hn : n < 18446744073709551616) :
    Calls Tryd.prog 40 #[.int .u64 n] w fun e w' => e = .returned (.string (bs (Crc.hex n))) ∧ w = w' := by
  go_enter Tryd.func40, Tryd.ntmps40
  go_wp2
  go_loop [0, 3, 4] (fun h s i => ∃ j : Nat, ∃ acc : List UInt8, j ≤ 16 ∧ i = .int .i64 j ∧ h = .int .u64 ((n / 16 ^ j : Nat) : Int) ∧ s = .string (bs acc) ∧ acc.length = j ∧ Crc.hex n = Crc.hexF (16 - j) (n / 16 ^ j) acc) (fun _ _ i => (16 - intOf i).toNat)
  case atStart => exact ⟨0, [], Nat.zero_le _, rfl, by simp, rfl, rfl, by simp [Crc.hex]⟩
  case round =>
    obtain ⟨j, acc, hj, rfl, rfl, rfl, hacc, hhex⟩ := hrel
    have HH := Lib.hid hhex
    clear hhex
    have hal : acc.length ≤ 16 := by omega
    have HA := Lib.hid hacc
    clear hacc
    by_cases hlt : j < 16
    · have hs : n / 16 ^ (j + 1) = n / 16 ^ j / 16 := by rw [Nat.div_div_eq_div_mul, Nat.pow_succ]
      have HS := Lib.hid hs
      clear hs
      have hM : n / 16 ^ j < 18446744073709551616 := Nat.lt_of_le_of_lt (Nat.div_le_self _ _) hn
      generalize n / 16 ^ j = M at hM HS HH ⊢
      have hd : ∀ W, (Instr.index 9 (.string { data := #[48, 49, 50, 51, 52, 53, 54, 55, 56, 57, 97, 98, 99, 100, 101, 102] }) (.int .u64 ((M : Int) % 16))).run Tryd.prog W = .ok (.int .u8 ((Crc.dig (M % 16)).toNat : Int)) W := fun W => by
        rw [show ((M : Int) % 16) = ((M % 16 : Nat) : Int) by omega]
        exact hexdig (M % 16) (by omega) W
      have hu := utf8_dig (M % 16) (by omega)
      have hac := HA.out
      have hF : Crc.hexF (16 - j) M acc = Crc.hexF (16 - (j + 1)) (M / 16) (Crc.dig (M % 16) :: acc) := by
        rw [show 16 - j = (16 - (j + 1)) + 1 by omega, Crc.hexF]
      generalize Crc.dig (M % 16) = dd at hd hu hF
      have HF := Lib.hid hF
      clear hF hac
      obtain ⟨us, hus⟩ : ∃ us, bs [dd] = us := ⟨_, rfl⟩
      have hsz : us.size ≤ 1 := by rw [← hus, bs_size]; simp
      rw [hus] at hu
      have HU := Lib.hid hus
      clear hus
      have hadd : ∀ W, (Op.stringOp .add us (bs acc)).run Tryd.prog W = .ok (.string (us ++ bs acc)) W := fun W => run_string_add_sum W us (bs acc) (by rw [bs_size]; omega)
      clear hsz hal
      have hcv : ∀ W, (convert 5 9 (.int .u8 (dd.toNat : Int))).run Tryd.prog W = .ok (.string us) W := fun W => by
        rw [run_convert_int_string _ _ _ _ _ (by rw [Tryd.underlying5]; rfl) Tryd.underlying9, hu]
      clear hu
      go_wp2
      go_round
      case rel => exact ⟨j + 1, dd :: acc, by omega, by go_num, by rw [HS.out]; simp, by rw [← HU.out, bs_append]; rfl, by rw [List.length_cons, HA.out], by rw [HS.out, HH.out, HF.out]⟩
      case measure => simp [intOf] <;> omega
    · have HF := HH.out
      rw [show 16 - j = 0 by omega] at HF
      generalize n / 16 ^ j = M at HF ⊢
      have HG := Lib.hid HF
      clear HF HH HA
      go_wp2
      go_ret
      exact ⟨ret_v (by rw [HG.out]; rfl), rfl⟩
theorem chain_any (h : Nat) (l : List UInt8) (w : World) (hs : l.length ≤ 100000) (hh : h < 18446744073709551616) :
    Calls Tryd.prog 35 #[.int .u64 h, .string (bs l)] w fun e w' => e = .returned (.int .u64 (Crc.chain h l : Nat)) ∧ Below w.heap.size w w' := by
  have hc := Crc.chain_eq h l
  have HC := Lib.hid hc
  clear hc
  have h1 := Crc.addAll_lt (Crc.le8 h) (r := 14695981039346656037) (by omega)
  have h2 := Crc.addAll_lt (Crc.le8 l.length) h1
  go_enter Tryd.func35, Tryd.ntmps35
  go_wp2_with fail
  refine (number_any h _ hh).mono ?_
  rintro e w1 ⟨rfl, hb1⟩
  go_wp2_with fail
  refine (add_any 14695981039346656037 _ _ (by rw [Crc.le8_length]; unfold maxLen; omega) (by omega)).mono ?_
  rintro e w2 ⟨rfl, rfl⟩
  generalize Crc.addAll 14695981039346656037 (Crc.le8 h) = a at h1 h2 HC ⊢
  go_wp2_with fail
  refine (number_any l.length _ (by omega)).mono ?_
  rintro e w2 ⟨rfl, hb2⟩
  go_wp2_with fail
  refine (add_any a _ _ (by rw [Crc.le8_length]; unfold maxLen; omega) h1).mono ?_
  rintro e w3 ⟨rfl, rfl⟩
  generalize Crc.addAll a (Crc.le8 l.length) = b at h2 HC ⊢
  go_wp2_with fail
  refine (add_any b l _ (by unfold maxLen; omega) h2).mono ?_
  rintro e w3 ⟨rfl, rfl⟩
  go_wp2_with fail
  go_ret
  exact ⟨ret_int (by rw [HC.out]), hb1.trans (hb2.mono hb1.size)⟩
theorem info5b : (Tryd.prog.info? 5).map (fun i => (i.zero, i.size, i.bytes)) = some (some (.int .u8 0), 1, 1) := by kernel_rfl
/-- What the reference has gathered of the two numbers. -/
def pre (h n : Nat) : Nat → List UInt8
  | 0 => []
  | 1 => Crc.le8 h
  | _ => Crc.le8 h ++ Crc.le8 n
def num (h n : Nat) : Nat → Nat
  | 0 => h
  | _ => n
theorem pre_succ (h n k : Nat) (hk : k < 2) : pre h n (k + 1) = pre h n k ++ Crc.le8 (num h n k) := by
  match k, hk with
  | 0, _ => rfl
  | 1, _ => rfl
theorem pre_length (h n k : Nat) : (pre h n k).length ≤ 16 := by
  match k with
  | 0 => simp [pre]
  | 1 => simp [pre, Crc.le8_length]
  | k + 2 => simp [pre, Crc.le8_length]
set_option maxRecDepth 100000 in
theorem refChain_any (h : Nat) (l : List UInt8) (w : World) (hs : l.length ≤ 100000) (hh : h < 18446744073709551616) :
    Calls Tryd.prog 36 #[.int .u64 h, .string (bs l)] w fun e w' => e = .returned (.int .u64 (Crc.chain h l : Nat)) ∧ Below w.heap.size w w' := by
  obtain ⟨i0, hi, hz0, hz1, hz2⟩ := info_parts info5b
  go_enter Tryd.func36, Tryd.ntmps36
  go_wp2_with fail
  obtain ⟨w1, hw1⟩ : ∃ w1, w1 = w.alloc (.cells #[.int .u64 (h : Int), .int .u64 (l.length : Int)] 32) := ⟨_, rfl⟩
  rw [← hw1]
  have hbw : Below w.heap.size w w1 := by rw [hw1]; exact (Below.refl _ _).alloc (Nat.le_refl _) _
  have hsz : w1.heap.size = w.heap.size + 1 := by rw [hw1]; simp
  have hcl : ∀ k, k < 2 → w1.cell? ⟨w.heap.size, k, none⟩ = some (.int .u64 (num h l.length k : Nat)) := by
    intro k hk
    rw [hw1, World.cell?_alloc_at _ _ _ _ rfl]
    match k, hk with
    | 0, _ => rfl
    | 1, _ => rfl
  clear hw1
  have HZ := Lib.hid hsz
  have hsz' : w.heap.size < w1.heap.size := by omega
  clear hsz
  go_loopw [5, 18] (fun v i wr => ∃ k : Nat, k ≤ 2 ∧ i = .int .i64 k ∧ OwnB wr w1.heap.size 5 v (pre h l.length k) ∧ Below w1.heap.size w1 wr) (fun _ i _ => (2 - intOf i).toNat)
  case atStart => exact ⟨0, by omega, rfl, OwnB.nil _ _ _, Below.refl _ _⟩
  case round =>
    obtain ⟨k, hk, rfl, hown, hbr⟩ := hrel
    by_cases hlt : k < 2
    · have hck := (hbr.cell (p := ⟨w.heap.size, k, none⟩) (by simpa using hsz')).trans (hcl k hlt)
      have hp := pre_succ h l.length k hlt
      have hpl := pre_length h l.length k
      have HP := Lib.hid hp
      have hn : num h l.length k < 18446744073709551616 := by
        match k, hlt with
        | 0, _ => exact hh
        | 1, _ => show l.length < _; omega
      clear hp hcl
      generalize num h l.length k = n at hck HP hn
      generalize pre h l.length k = p at hown HP hpl
      have hd2 : decide ((k : Int) < 2) = true := by simp; omega
      go_wp2_with fail
      obtain ⟨wo, hwo⟩ : ∃ wo : World, wo = wr := ⟨_, rfl⟩
      rw [← hwo] at hown hbr hck ⊢
      clear hwo
      go_loopw [5, 7, 8] (fun v m i wr => ∃ j : Nat, j ≤ 8 ∧ i = .int .i64 j ∧ m = .int .u64 ((n / 256 ^ j : Nat) : Int) ∧ OwnB wr w1.heap.size 5 v (p ++ (Crc.le8 n).take j) ∧ Below w1.heap.size w1 wr) (fun _ _ i _ => (8 - intOf i).toNat)
      case atStart => exact ⟨0, by omega, rfl, by simp, by simpa using hown, hbr⟩
      case round =>
        obtain ⟨j, hj, rfl, rfl, hown, hbr⟩ := hrel
        by_cases hj8 : j < 8
        · have hnx : n / 256 ^ (j + 1) = n / 256 ^ j / 256 := by rw [Nat.div_div_eq_div_mul, Nat.pow_succ]
          have hg := Crc.le8_get n j hj8
          have htk : (Crc.le8 n).take (j + 1) = (Crc.le8 n).take j ++ [UInt8.ofNat (n / 256 ^ j)] := by rw [List.take_add_one, hg]; rfl
          have hqn : n / 256 ^ j < 18446744073709551616 := Nat.lt_of_le_of_lt (Nat.div_le_self _ _) hn
          have htl : ((Crc.le8 n).take j).length ≤ 8 := by rw [List.length_take, Crc.le8_length]; omega
          have HN := Lib.hid hnx
          have HT := Lib.hid htk
          clear hnx hg htk
          generalize n / 256 ^ j = q at hqn HN HT ⊢
          generalize (Crc.le8 n).take j = t at hown HT htl
          go_wp2_with (at_builtin; refine wpList_append_u8 _ rfl (.tmp 26) (.tmp 29) 49 rfl w1.heap.size 5 i0 Tryd.underlying49 hi hz0 hz1 hz2 _ _ rfl hown (UInt8.ofNat q) _ (u8_of q).symm _ rfl (by rw [List.length_append]; omega) hbr.size ?_; intro v' w' hown' hkeep)
          go_roundw
          case rel => exact ⟨j + 1, by omega, by go_num, by rw [HN.out]; simp, by rw [HT.out, ← List.append_assoc]; exact hown', hkeep _ _ (Nat.le_refl _) hbr⟩
          case measure => simp [intOf] <;> omega
        · obtain rfl : j = 8 := by omega
          rw [List.take_of_length_le (by rw [Crc.le8_length]; omega), ← HP.out] at hown
          go_wp2_with fail
          go_roundw
          case rel => exact ⟨k + 1, by omega, by go_num, hown, hbr⟩
          case measure => simp [intOf] <;> omega
    · obtain rfl : k = 2 := by omega
      have hpl : (pre h l.length 2).length = 16 := by simp [pre, Crc.le8_length]
      have hch : Crc.chain h l = Crc.addAll 14695981039346656037 (pre h l.length 2 ++ l) := by rw [Crc.chain]; rfl
      have HC := Lib.hid hch
      clear hch hcl
      generalize pre h l.length 2 = p at hown hpl HC
      have hne : p ++ l ≠ [] := by intro e; rw [List.append_eq_nil_iff] at e; rw [e.1] at hpl; simp at hpl
      have hpl' : p.length ≤ 16 := by omega
      clear hpl
      go_wp2_with (at_builtin; refine wpList_append_str _ rfl (.tmp 34) (.tmp 35) 49 9 rfl w1.heap.size 5 i0 Tryd.underlying49 Tryd.underlying9 hi hz0 hz1 hz2 _ _ rfl hown l rfl (by omega) hbr.size ?_; intro v' w' hown' hkeep; obtain ⟨g, cap, hv, hcell⟩ := hown'.row hne; rw [hv])
      have hbel := hbw.trans ((hkeep _ _ (Nat.le_refl _) hbr).mono (Nat.le_of_lt hsz'))
      have hml : (p ++ l).length ≤ 200000 := by rw [List.length_append]; omega
      clear hv hown' hown hkeep hbr hne hbw HZ hsz'
      have hm1 : (p ++ l).length ≤ p.length + l.length := by rw [List.length_append]; omega
      have hm2 : p.length + l.length ≤ (p ++ l).length := by rw [List.length_append]; omega
      generalize p ++ l = m at HC hml hcell hm1 hm2 ⊢
      obtain ⟨wz, hwz⟩ : ∃ wz, wz = w' := ⟨_, rfl⟩
      rw [← hwz] at hbel hcell ⊢
      clear hwz
      go_loop [9, 39] (fun r i => ∃ j : Nat, j ≤ m.length ∧ i = .int .i64 j ∧ r = .int .u64 (Crc.addAll 14695981039346656037 (m.take j) : Nat)) (fun _ i => (m.length - intOf i).toNat)
      case atStart => exact ⟨0, by omega, rfl, rfl⟩
      case round =>
        obtain ⟨j, hj, rfl, rfl⟩ := hrel
        have hR := Crc.addAll_lt (m.take j) (r := 14695981039346656037) (by omega)
        by_cases hjl : j < m.length
        · have hts : Crc.addAll 14695981039346656037 (m.take (j + 1)) = Crc.add1 (Crc.addAll 14695981039346656037 (m.take j)) m[j] := by rw [take_snoc m j hjl, Crc.addAll_snoc]
          have hc := hcell j m[j] (List.getElem?_eq_getElem hjl)
          have HT := Lib.hid hts
          clear hts hcell
          generalize Crc.addAll 14695981039346656037 (m.take j) = R at hR HT ⊢
          have hb := Crc.u8_lt m[j]
          generalize m[j] = c at hb HT hc
          have e1 : bits .xor .u64 (R : Nat) (c.toNat : Nat) = ((R ^^^ c.toNat : Nat) : Int) := u64_xor_nat _ _ hR (by omega)
          go_wp2
          go_round
          case rel => exact ⟨j + 1, by omega, by go_num, by rw [HT.out, wrapu64]⟩
          case measure => simp [intOf] <;> omega
        · have hta := take_all m j hjl
          go_wp2
          go_ret
          exact ⟨ret_int (by rw [HC.out, ← hta]), hbel⟩
end Go.Proofs.YtnckainiphlndaaDoor
