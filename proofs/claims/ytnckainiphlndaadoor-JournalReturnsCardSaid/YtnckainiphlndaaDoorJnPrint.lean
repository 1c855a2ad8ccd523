/- The walks of Print and of its reference. -/
import Derived.Test.YtnckainiphlndaaDoorJnWalksE
import Derived.Test.YtnckainiphlndaaDoorBuilder
import Derived.Deep.Cut
namespace Go.Proofs.YtnckainiphlndaaDoor
set_option linter.unusedVariables false
set_option linter.unusedSimpArgs false
open Go.RowKit
attribute [local go_sem] bs_size bs_get bs_append bs_extract bs_toList
theorem Blk.others {b g : Nat} {T : TypeId} {cs : Array Value} {w w' : World} (h : Blk w g T cs) (ho : Others b w w') (hg : g ≠ b) (hT : T ≠ 5) : Blk w' g T cs := ho g cs T (0, 0) hg h hT
theorem hexL_len (n : Nat) : (Crc.hex n).length = 16 := Crc.hex_length n
theorem prtF_bad {l : List Ent} (h : verF l ≠ -1) : prtF l = ([], 1) := by unfold prtF; rw [if_neg h]
theorem prtF_ok {l : List Ent} (h : verF l = -1) : prtF l = (textJ l, 0) := by unfold prtF; rw [if_pos h]
theorem verF_cases (l : List Ent) : verF l = -1 ∨ (0 ≤ verF l ∧ verF l < l.length) := by
  unfold verF
  rcases verG_ge l 0 0 0 with h | ⟨h1, h2⟩
  · exact .inl h
  · right; omega
theorem okX_line {x : Ent} (h : okX x) : (lineE x).length ≤ 2040 := by
  have h2 := (legB_iff.1 h.2.1).1.2
  have h3 := itoa_short x.time ⟨(tm_i64 h.1).1, (tm_i64 h.1).2⟩
  have h4 := hexL_len x.sum
  unfold lineE lineL
  simp only [List.length_append, List.length_cons, List.length_nil]
  omega
theorem textJ_len : ∀ (l : List Ent), (∀ x ∈ l, okX x) → (textJ l).length ≤ l.length * 2040
  | [], _ => by simp [textJ]
  | x :: r, h => by
    have h1 := textJ_len r fun y hy => h y (by simp [hy])
    have h2 := okX_line (h x (by simp))
    have e : textJ (x :: r) = lineE x ++ textJ r := by simp [textJ]
    rw [e, List.length_append, List.length_cons, Nat.succ_mul]
    omega
theorem verF_len {l : List Ent} (h : verF l = -1) : l.length ≤ 512 := by
  have := verG_len l 0 0 0 h (by omega)
  omega
theorem textJ_take_len {l : List Ent} (h : verF l = -1) (k : Nat) : (textJ (l.take k)).length ≤ 1044480 := by
  have h1 := textJ_len (l.take k) fun x hx => verG_ok l 0 0 0 h x (List.mem_of_mem_take hx)
  have h2 := verF_len h
  have h3 : (l.take k).length ≤ 512 := by rw [List.length_take]; omega
  have h4 : (l.take k).length * 2040 ≤ 512 * 2040 := Nat.mul_le_mul_right _ h3
  omega
theorem textJ_at {l : List Ent} {k : Nat} (h : k < l.length) : textJ (l.take (k + 1)) = textJ (l.take k) ++ lineE l[k] := by rw [List.take_succ_eq_append_getElem h, textJ_snoc]
theorem verifyD {j : List Ent} {n : Int} (h : verF j = n) (A : Option Addr) (cap : Nat) (w : World) (E : Env w) (hr : RdS cE w (Lt w) A j) (hl : j.length ≤ maxLen) (hcap : j.length ≤ cap) :
    Calls Tryd.prog 14 #[.slice A j.length cap] w fun e w' => e = .returned (.int .i64 n) ∧ Below w.heap.size w w' := h ▸ verify_any j A cap w E hr hl hcap
theorem rverifyD {j : List Ent} {n : Int} (h : verF j = n) (A : Option Addr) (cap : Nat) (w : World) (E : Env w) (hr : RdS cE w (Lt w) A j) (hl : j.length ≤ maxLen) (hcap : j.length ≤ cap) :
    Calls Tryd.prog 13 #[.slice A j.length cap] w fun e w' => e = .returned (.int .i64 n) ∧ Below w.heap.size w w' := h ▸ rverify_any j A cap w E hr hl hcap
theorem ret_s2 {a c : List UInt8} {b d : Int} (h : a = c) (h2 : b = d) : Ending.returned (.tuple #[.string (bs a), .int .i64 b]) = .returned (.tuple #[.string (bs c), .int .i64 d]) := by rw [h, h2]
/-- The text a WriteString adds. -/
theorem add_to {a b c : List UInt8} (h : a ++ b = c) : b = b → a ++ b = c := fun _ => h
set_option maxRecDepth 100000 in
set_option maxHeartbeats 8000000 in
theorem print_any (l : List Ent) (A : Option Addr) (cap : Nat) (w : World) (E : Env w) (hr : RdS cE w (Lt w) A l) (hl : l.length ≤ maxLen) (hcap : l.length ≤ cap) :
    Calls Tryd.prog 16 #[.slice A l.length cap] w fun e w' => e = .returned (.tuple #[.string (bs (prtF l).1), .int .i64 (prtF l).2]) ∧ Below w.heap.size w w' := by
  by_cases hv : verF l = -1
  · have HP := Lib.hid (prtF_ok hv)
    have HTL := Lib.hid fun k => textJ_take_len hv k
    have hl5 := verF_len hv
    have HOK := Lib.hid (verG_ok l 0 0 0 hv)
    go_enter Tryd.func16, Tryd.ntmps16
    go_wp2_with fail
    refine (verifyD hv A cap w E hr hl hcap).mono ?_
    rintro e w1 ⟨rfl, hb1⟩
    have hr1 := hr.now hb1
    have E1 := E.now hb1
    clear hr hl hv
    have hfr := Bld.fresh w1
    have hz1 := hb1.size
    generalize hw0 : w1.alloc (.cells #[.pointer none, .slice none 0 0] 51) = w0 at hfr
    have hb0 : Below w1.heap.size w1 w0 := hw0 ▸ (Below.refl _ _).alloc (Nat.le_refl _) _
    have hz0 : w1.heap.size < w0.heap.size := by rw [← hw0]; simp
    go_upto_region 4 with (fail)
    clear hw0
    go_wp2_with fail
    generalize hB : w1.heap.size = B at *
    go_loopw [12] (fun i wr => ∃ k : Nat, k ≤ l.length ∧ i = .int .i64 k ∧ Bld B B (textJ (l.take k)) wr ∧ Below B w1 wr ∧ B < wr.heap.size) (fun i _ => l.length - (intOf i).toNat)
    case atStart => exact ⟨0, Nat.zero_le _, rfl, hfr, hb0, hz0⟩
    case round =>
      obtain ⟨k, hk, rfl, hbl, hbq, hBq⟩ := hrel
      have hbq' : Below w1.heap.size w1 wr := hB ▸ hbq
      have Eq := E1.now hbq'
      by_cases hlt : k < l.length
      · obtain ⟨b1, o1, rfl, l1, hxo, x0, x1, x2⟩ := ent_at (hr1.now hbq') hlt
        have HT := Lib.hid (textJ_at hlt)
        have hx := HOK.out l[k] (List.getElem_mem hlt)
        have hpl := HTL.out k
        generalize l[k] = x at hxo x0 x1 x2 HT hx
        generalize textJ (l.take k) = pre at hbl HT hpl
        have hit := itoa_short x.time hxo.1
        have hhx := hexL_len x.sum
        have htx := (legB_iff.1 hx.2.1).1.2
        have hki : (k : Int) < (l.length : Int) := by omega
        clear l1 hx
        have hblk : Blk (wr.alloc (.cells #[.int .i64 x.time, .string (bs x.text), .int .u64 (x.sum : Int)] 37)) wr.heap.size 37 #[.int .i64 x.time, .string (bs x.text), .int .u64 (x.sum : Int)] := Blk.new _ _ _ _ rfl
        have hba : Below wr.heap.size wr (wr.alloc (.cells #[.int .i64 x.time, .string (bs x.text), .int .u64 (x.sum : Int)] 37)) := (Below.refl _ _).alloc (Nat.le_refl _) _
        have hbla := hbl.alloc (.cells #[.int .i64 x.time, .string (bs x.text), .int .u64 (x.sum : Int)] 37)
        go_wp2_with fail
        refine (format_any x.time _ (Eq.now hba) hxo.1.1 hxo.1.2).mono ?_
        rintro e w2 ⟨rfl, hb2⟩
        have hB2 := bel_then (bel_then hbq (Nat.le_of_lt hBq) hba) (Nat.le_trans (Nat.le_of_lt hBq) hba.size) hb2
        have hblk2 := hblk.now hb2
        have hbl2 := bld_below hbla hb2
        have hz2 := hblk2.lt
        clear hblk hbla hbl hb2 hba Eq hbq hbq' x0 x1 x2
        have hgb : wr.heap.size ≠ B := by omega
        generalize hit' : Lib.itoa x.time = it at hit
        go_wp2_with fail
        refine (writeString_any B B pre it w2 hbl2 (by omega) (by omega)).mono ?_
        rintro e w3 ⟨rfl, hbl3, hb3, ho3⟩
        have hblk3 := hblk2.others ho3 hgb (by decide)
        have hB3 := hB2.trans hb3
        have hz3 := hblk3.lt
        clear hblk2 hbl2 hb3 ho3 hB2
        go_wp2_with fail
        refine (writeString_any B B (pre ++ it) [32] w3 hbl3 (by simp; omega) (by omega)).mono ?_
        rintro e w4 ⟨rfl, hbl4, hb4, ho4⟩
        have hblk4 := hblk3.others ho4 hgb (by decide)
        have hB4 := hB3.trans hb4
        have hz4 := hblk4.lt
        have y2 : w4.cell? ⟨wr.heap.size, 2, none⟩ = some (.int .u64 (x.sum : Int)) := hblk4.cell 2
        clear hblk3 hbl3 hb4 ho4 hB3
        go_wp2_with fail
        refine (hex_any x.sum w4 hxo.2.2).mono ?_
        rintro e w5 ⟨rfl, hb5⟩
        have hblk5 := hblk4.now hb5
        have hbl5 := bld_below hbl4 hb5
        have hB5 := bel_then hB4 (by omega) hb5
        have hz5 := hblk5.lt
        clear hblk4 hbl4 hB4 hb5 y2
        generalize hhx' : Crc.hex x.sum = hx at hhx
        go_wp2_with fail
        refine (writeString_any B B (pre ++ it ++ [32]) hx w5 hbl5 (by simp; omega) (by omega)).mono ?_
        rintro e w6 ⟨rfl, hbl6, hb6, ho6⟩
        have hblk6 := hblk5.others ho6 hgb (by decide)
        have hB6 := hB5.trans hb6
        have hz6 := hblk6.lt
        clear hblk5 hbl5 hb6 ho6 hB5
        go_wp2_with fail
        refine (writeString_any B B (pre ++ it ++ [32] ++ hx) [32] w6 hbl6 (by simp; omega) (by omega)).mono ?_
        rintro e w7 ⟨rfl, hbl7, hb7, ho7⟩
        have hblk7 := hblk6.others ho7 hgb (by decide)
        have hB7 := hB6.trans hb7
        have hz7 := hblk7.lt
        have y1 : w7.cell? ⟨wr.heap.size, 1, none⟩ = some (.string (bs x.text)) := hblk7.cell 1
        clear hblk6 hbl6 hb7 ho7 hB6
        go_wp2_with fail
        refine (writeString_any B B (pre ++ it ++ [32] ++ hx ++ [32]) x.text w7 hbl7 (by simp; omega) (by omega)).mono ?_
        rintro e w8 ⟨rfl, hbl8, hb8, ho8⟩
        have hB8 := hB7.trans hb8
        have hz8 := hb8.size
        go_wp2_with fail
        refine (writeString_any B B (pre ++ it ++ [32] ++ hx ++ [32] ++ x.text) [10] w8 hbl8 (by simp; omega) (by omega)).mono ?_
        rintro e w9 ⟨rfl, hbl9, hb9, ho9⟩
        have hB9 := hB8.trans hb9
        have hz9 := hb9.size
        have hbl10 : Bld B B (textJ (l.take (k + 1))) w9 := by
          rw [HT.out]
          unfold lineE lineL
          rw [hit', hhx']
          simpa [List.append_assoc] using hbl9
        clear hbl9 hbl8 hbl7 hb9 hb8 hB8 hB7 y1
        go_wp2_with fail
        go_roundw
        case rel => exact ⟨k + 1, by omega, by go_num, hbl10, hB9, by omega⟩
        case measure => simp [intOf]; omega
      · obtain rfl : k = l.length := by omega
        rw [List.take_length] at hbl
        go_wp2_with fail
        refine (builderString_any B B _ _ hbl (by omega)).mono ?_
        rintro e w2 ⟨rfl, hb2⟩
        go_wp2_with fail
        go_ret2
        refine ⟨by rw [HP.out]; rfl, ?_⟩
        exact (hb1.trans (hbq.mono (by omega))).trans (hb2.mono (by omega))
  · have HP := Lib.hid (prtF_bad hv)
    rcases verF_cases l with h | ⟨h1, h2⟩
    · exact absurd h hv
    · obtain ⟨n, hn⟩ : ∃ n, verF l = n := ⟨_, rfl⟩
      have HN := Lib.hid hn
      rw [hn] at h1
      clear h2 hv hn
      go_enter Tryd.func16, Tryd.ntmps16
      go_wp2_with fail
      refine (verifyD HN.out A cap w E hr hl hcap).mono ?_
      rintro e w1 ⟨rfl, hb1⟩
      have hne : (n != -1) = true := by simp; omega
      go_wp2_with fail
      go_ret2
      exact ⟨by rw [HP.out]; rfl, hb1⟩
end Go.Proofs.YtnckainiphlndaaDoor
