/- The walk of the program's function that reads a line. -/
import Derived.Test.YtnckainiphlndaaDoorJnEntry
import Derived.Deep.Cut
namespace Go.Proofs.YtnckainiphlndaaDoor
set_option linter.unusedVariables false
set_option linter.unusedSimpArgs false
open Go.RowKit
attribute [local go_sem] bs_size bs_get bs_append bs_extract bs_toList
theorem wraps_u64' (n : Int) (h₀ : 0 ≤ n) (h₁ : n < 2 ^ 64) : IntKind.u64.wrap n = n := by rw [IntKind.wrap_u64]; omega
theorem or_hex (v d : Nat) (hv : v < 1152921504606846976) (hd : d < 16) : bits .or .u64 ((v : Int) * 16) (d : Int) = ((v * 16 + d : Nat) : Int) := by
  rw [bits_join .u64 64 (by decide) wraps_u64' 4 _ _ (by omega) (by omega) (by omega) (by omega) (by omega) (by omega)]
  omega
theorem entF_bad {a b c : List UInt8} {n x : Int} (ha : (32 : UInt8) ∉ a) (hb : (32 : UInt8) ∉ b) (hi : intF a = (n, x)) (h : x ≠ 0 ∨ tmB n = false ∨ b.length ≠ 16 ∨ legB c = false) : entF (a ++ 32 :: (b ++ 32 :: c)) = none := by
  rw [entF_two ha hb, hi, if_neg]
  rintro ⟨h1, h2, h3, h4⟩
  rcases h with h | h | h | h
  · exact h h1
  · rw [h] at h2; cases h2
  · exact h h3
  · rw [h] at h4; cases h4
theorem entF_good {a b c : List UInt8} {n : Int} (ha : (32 : UInt8) ∉ a) (hb : (32 : UInt8) ∉ b) (hi : intF a = (n, 0)) (h1 : tmB n = true) (h2 : b.length = 16) (h3 : legB c = true) : entF (a ++ 32 :: (b ++ 32 :: c)) = (hexV 0 b).map fun v => ⟨n, c, v⟩ := by
  rw [entF_two ha hb, hi, if_pos ⟨rfl, h1, h2, h3⟩]
theorem intF_i64 (s : List UInt8) : I64n (intF s).1 := by
  unfold intF
  dsimp only []
  repeat' split
  all_goals first
    | exact ⟨by decide, by decide⟩
    | (rename_i h; revert h; generalize val _ = u; intro h; constructor <;> dsimp only [] <;> omega)
set_option maxRecDepth 100000 in
set_option maxHeartbeats 4000000 in
theorem entry_no (l : List UInt8) (w : World) (E : EnvR w) (hs : l.length ≤ 1000000) (h1 : (32 : UInt8) ∉ l) : Calls Tryd.prog 33 #[.string (bs l)] w (EPost w (entF l)) := by
  have HF := Lib.hid (entF_no h1)
  have hba : Below w.heap.size w (w.alloc (.cells #[.int .i64 0, .string ByteArray.empty, .int .u64 0] 37)) := (Below.refl _ _).alloc (Nat.le_refl _) _
  have hblk : Blk (w.alloc (.cells #[.int .i64 0, .string ByteArray.empty, .int .u64 0] 37)) w.heap.size 37 #[.int .i64 0, .string ByteArray.empty, .int .u64 0] := Blk.new _ _ _ _ rfl
  have HC := Lib.hid (cut_sp_no l (w.alloc (.cells #[.int .i64 0, .string ByteArray.empty, .int .u64 0] 37)) (E.toEnv.now hba) (by omega) h1)
  clear h1
  go_enter Tryd.func33, Tryd.ntmps33
  go_wp2_with fail
  refine HC.out.mono ?_
  rintro e w2 ⟨rfl, hb2⟩
  have hblk2 := hblk.now hb2
  have hB2 := bel_then hba hba.size hb2
  have c0 : w2.cell? ⟨w.heap.size, 0, none⟩ = some (.int .i64 0) := hblk2.cell 0
  have c1 : w2.cell? ⟨w.heap.size, 1, none⟩ = some (.string ByteArray.empty) := hblk2.cell 1
  have c2 : w2.cell? ⟨w.heap.size, 2, none⟩ = some (.int .u64 0) := hblk2.cell 2
  have f0 : w2.frozen? ⟨w.heap.size, 0, none⟩ = false := hblk2.free 0
  have f1 : w2.frozen? ⟨w.heap.size, 1, none⟩ = false := hblk2.free 1
  have f2 : w2.frozen? ⟨w.heap.size, 2, none⟩ = false := hblk2.free 2
  go_wp2_with fail
  exact bodyPost_ret (v := .tuple #[.agg #[.int .i64 0, .string { data := #[] }, .int .u64 0], .bool false]) (by simp [results, Tryd.results33, go_sem, c0, c1, c2]) rfl (epost_no HF.out rfl (((hB2.setCell (p := ⟨w.heap.size, 0, none⟩) (Nat.le_refl _) _).setCell (p := ⟨w.heap.size, 1, none⟩) (Nat.le_refl _) _).setCell (p := ⟨w.heap.size, 2, none⟩) (Nat.le_refl _) _))
set_option maxRecDepth 100000 in
set_option maxHeartbeats 4000000 in
theorem entry_x (a r : List UInt8) (n x : Int) (w : World) (E : EnvR w) (hs : (a ++ 32 :: r).length ≤ 1000000) (ha : (32 : UInt8) ∉ a) (hi : intF a = (n, x)) (hx : x ≠ 0) (hf : entF (a ++ 32 :: r) = none) : Calls Tryd.prog 33 #[.string (bs (a ++ 32 :: r))] w (EPost w (entF (a ++ 32 :: r))) := by
  have HF := Lib.hid hf
  have HI := Lib.hid hi
  have hal : a.length ≤ 281474976710656 := by simp at hs; omega
  have hrl : r.length ≤ 1000000 := by simp at hs; omega
  have HC := Lib.hid (cut_sp_at a r (w.alloc (.cells #[.int .i64 0, .string ByteArray.empty, .int .u64 0] 37)) (E.toEnv.now ((Below.refl _ _).alloc (Nat.le_refl _) _)) (by omega) ha)
  have hxb : (x != 0) = true := by simpa using hx
  clear hf hi ha hx hs
  generalize a ++ 32 :: r = l at *
  have hba : Below w.heap.size w (w.alloc (.cells #[.int .i64 0, .string ByteArray.empty, .int .u64 0] 37)) := (Below.refl _ _).alloc (Nat.le_refl _) _
  have hblk : Blk (w.alloc (.cells #[.int .i64 0, .string ByteArray.empty, .int .u64 0] 37)) w.heap.size 37 #[.int .i64 0, .string ByteArray.empty, .int .u64 0] := Blk.new _ _ _ _ rfl
  go_enter Tryd.func33, Tryd.ntmps33
  go_wp2_with fail
  refine HC.out.mono ?_
  rintro e w2 ⟨rfl, hb2⟩
  have hblk2 := hblk.now hb2
  have hB2 := bel_then hba hba.size hb2
  have E2 := E.now hB2
  go_wp2_with fail
  refine (intC HI.out w2 E2 hal).mono ?_
  rintro e w3 ⟨rfl, hb3⟩
  have hblk3 := hblk2.now hb3
  have hB3 := bel_then hB2 hB2.size hb3
  have c0 : w3.cell? ⟨w.heap.size, 0, none⟩ = some (.int .i64 0) := hblk3.cell 0
  have c1 : w3.cell? ⟨w.heap.size, 1, none⟩ = some (.string ByteArray.empty) := hblk3.cell 1
  have c2 : w3.cell? ⟨w.heap.size, 2, none⟩ = some (.int .u64 0) := hblk3.cell 2
  have f0 : w3.frozen? ⟨w.heap.size, 0, none⟩ = false := hblk3.free 0
  have f1 : w3.frozen? ⟨w.heap.size, 1, none⟩ = false := hblk3.free 1
  have f2 : w3.frozen? ⟨w.heap.size, 2, none⟩ = false := hblk3.free 2
  go_wp2_with fail
  exact bodyPost_ret (v := .tuple #[.agg #[.int .i64 0, .string { data := #[] }, .int .u64 0], .bool false]) (by simp [results, Tryd.results33, go_sem, c0, c1, c2]) rfl (epost_no HF.out rfl (((hB3.setCell (p := ⟨w.heap.size, 0, none⟩) (Nat.le_refl _) _).setCell (p := ⟨w.heap.size, 1, none⟩) (Nat.le_refl _) _).setCell (p := ⟨w.heap.size, 2, none⟩) (Nat.le_refl _) _))
set_option maxRecDepth 100000 in
set_option maxHeartbeats 4000000 in
theorem entry_t (a r : List UInt8) (n : Int) (w : World) (E : EnvR w) (hs : (a ++ 32 :: r).length ≤ 1000000) (ha : (32 : UInt8) ∉ a) (hi : intF a = (n, 0)) (hn : I64n n) (hx : tmB n = false) (hf : entF (a ++ 32 :: r) = none) : Calls Tryd.prog 33 #[.string (bs (a ++ 32 :: r))] w (EPost w (entF (a ++ 32 :: r))) := by
  have HF := Lib.hid hf
  have HI := Lib.hid hi
  have hal : a.length ≤ 281474976710656 := by simp at hs; omega
  have hrl : r.length ≤ 1000000 := by simp at hs; omega
  have HC := Lib.hid (cut_sp_at a r (w.alloc (.cells #[.int .i64 0, .string ByteArray.empty, .int .u64 0] 37)) (E.toEnv.now ((Below.refl _ _).alloc (Nat.le_refl _) _)) (by omega) ha)
  have HX := Lib.hid hx
  clear hf hi ha hx hs
  generalize a ++ 32 :: r = l at *
  have hba : Below w.heap.size w (w.alloc (.cells #[.int .i64 0, .string ByteArray.empty, .int .u64 0] 37)) := (Below.refl _ _).alloc (Nat.le_refl _) _
  have hblk : Blk (w.alloc (.cells #[.int .i64 0, .string ByteArray.empty, .int .u64 0] 37)) w.heap.size 37 #[.int .i64 0, .string ByteArray.empty, .int .u64 0] := Blk.new _ _ _ _ rfl
  go_enter Tryd.func33, Tryd.ntmps33
  go_wp2_with fail
  refine HC.out.mono ?_
  rintro e w2 ⟨rfl, hb2⟩
  have hblk2 := hblk.now hb2
  have hB2 := bel_then hba hba.size hb2
  have E2 := E.now hB2
  go_wp2_with fail
  refine (intC HI.out w2 E2 hal).mono ?_
  rintro e w3 ⟨rfl, hb3⟩
  have hblk3 := hblk2.now hb3
  have hB3 := bel_then hB2 hB2.size hb3
  have c0 : w3.cell? ⟨w.heap.size, 0, none⟩ = some (.int .i64 0) := hblk3.cell 0
  have c1 : w3.cell? ⟨w.heap.size, 1, none⟩ = some (.string ByteArray.empty) := hblk3.cell 1
  have c2 : w3.cell? ⟨w.heap.size, 2, none⟩ = some (.int .u64 0) := hblk3.cell 2
  have f0 : w3.frozen? ⟨w.heap.size, 0, none⟩ = false := hblk3.free 0
  have f1 : w3.frozen? ⟨w.heap.size, 1, none⟩ = false := hblk3.free 1
  have f2 : w3.frozen? ⟨w.heap.size, 2, none⟩ = false := hblk3.free 2
  go_wp2_with fail
  refine (timelyC HX.out _ hn).mono ?_
  rintro e w4 ⟨rfl, rfl⟩
  go_wp2_with fail
  exact bodyPost_ret (v := .tuple #[.agg #[.int .i64 0, .string { data := #[] }, .int .u64 0], .bool false]) (by simp [results, Tryd.results33, go_sem, c0, c1, c2]) rfl (epost_no HF.out rfl (((hB3.setCell (p := ⟨w.heap.size, 0, none⟩) (Nat.le_refl _) _).setCell (p := ⟨w.heap.size, 1, none⟩) (Nat.le_refl _) _).setCell (p := ⟨w.heap.size, 2, none⟩) (Nat.le_refl _) _))
set_option maxRecDepth 100000 in
set_option maxHeartbeats 4000000 in
theorem entry_one (a r : List UInt8) (n : Int) (w : World) (E : EnvR w) (hs : (a ++ 32 :: r).length ≤ 1000000) (ha : (32 : UInt8) ∉ a) (hr : (32 : UInt8) ∉ r) (hi : intF a = (n, 0)) (hn : I64n n) (hx : tmB n = true) (hf : entF (a ++ 32 :: r) = none) : Calls Tryd.prog 33 #[.string (bs (a ++ 32 :: r))] w (EPost w (entF (a ++ 32 :: r))) := by
  have HF := Lib.hid hf
  have HI := Lib.hid hi
  have hal : a.length ≤ 281474976710656 := by simp at hs; omega
  have hrl : r.length ≤ 1000000 := by simp at hs; omega
  have HC := Lib.hid (cut_sp_at a r (w.alloc (.cells #[.int .i64 0, .string ByteArray.empty, .int .u64 0] 37)) (E.toEnv.now ((Below.refl _ _).alloc (Nat.le_refl _) _)) (by omega) ha)
  have HX := Lib.hid hx
  have HC2 := Lib.hid fun (W : World) (E : Env W) => cut_sp_no r W E (by omega) hr
  clear hf hi ha hx hr hs
  generalize a ++ 32 :: r = l at *
  have hba : Below w.heap.size w (w.alloc (.cells #[.int .i64 0, .string ByteArray.empty, .int .u64 0] 37)) := (Below.refl _ _).alloc (Nat.le_refl _) _
  have hblk : Blk (w.alloc (.cells #[.int .i64 0, .string ByteArray.empty, .int .u64 0] 37)) w.heap.size 37 #[.int .i64 0, .string ByteArray.empty, .int .u64 0] := Blk.new _ _ _ _ rfl
  go_enter Tryd.func33, Tryd.ntmps33
  go_wp2_with fail
  refine HC.out.mono ?_
  rintro e w2 ⟨rfl, hb2⟩
  have hblk2 := hblk.now hb2
  have hB2 := bel_then hba hba.size hb2
  have E2 := E.now hB2
  go_wp2_with fail
  refine (intC HI.out w2 E2 hal).mono ?_
  rintro e w3 ⟨rfl, hb3⟩
  have hblk3 := hblk2.now hb3
  have hB3 := bel_then hB2 hB2.size hb3
  go_wp2_with fail
  refine (timelyC HX.out _ hn).mono ?_
  rintro e w4 ⟨rfl, rfl⟩
  have E3 := E.now hB3
  go_wp2_with fail
  refine (HC2.out _ E3.toEnv).mono ?_
  rintro e w4 ⟨rfl, hb4⟩
  have hblk4 := hblk3.now hb4
  have hB4 := bel_then hB3 hB3.size hb4
  have c0 : w4.cell? ⟨w.heap.size, 0, none⟩ = some (.int .i64 0) := hblk4.cell 0
  have c1 : w4.cell? ⟨w.heap.size, 1, none⟩ = some (.string ByteArray.empty) := hblk4.cell 1
  have c2 : w4.cell? ⟨w.heap.size, 2, none⟩ = some (.int .u64 0) := hblk4.cell 2
  have f0 : w4.frozen? ⟨w.heap.size, 0, none⟩ = false := hblk4.free 0
  have f1 : w4.frozen? ⟨w.heap.size, 1, none⟩ = false := hblk4.free 1
  have f2 : w4.frozen? ⟨w.heap.size, 2, none⟩ = false := hblk4.free 2
  go_wp2_with fail
  exact bodyPost_ret (v := .tuple #[.agg #[.int .i64 0, .string { data := #[] }, .int .u64 0], .bool false]) (by simp [results, Tryd.results33, go_sem, c0, c1, c2]) rfl (epost_no HF.out rfl (((hB4.setCell (p := ⟨w.heap.size, 0, none⟩) (Nat.le_refl _) _).setCell (p := ⟨w.heap.size, 1, none⟩) (Nat.le_refl _) _).setCell (p := ⟨w.heap.size, 2, none⟩) (Nat.le_refl _) _))
set_option maxRecDepth 100000 in
set_option maxHeartbeats 4000000 in
theorem entry_len (a b c : List UInt8) (n : Int) (w : World) (E : EnvR w) (hs : (a ++ 32 :: (b ++ 32 :: c)).length ≤ 1000000) (ha : (32 : UInt8) ∉ a) (hb : (32 : UInt8) ∉ b) (hi : intF a = (n, 0)) (hn : I64n n) (hx : tmB n = true) (hl : b.length ≠ 16) : Calls Tryd.prog 33 #[.string (bs (a ++ 32 :: (b ++ 32 :: c)))] w (EPost w (entF (a ++ 32 :: (b ++ 32 :: c)))) := by
  have HF := Lib.hid (entF_bad (c := c) ha hb hi (Or.inr (Or.inr (Or.inl hl))))
  have HI := Lib.hid hi
  have hal : a.length ≤ 281474976710656 := by simp at hs; omega
  have hbl : b.length ≤ 1000000 := by simp at hs; omega
  have hcl : c.length ≤ 9223372036854775807 := by simp at hs; omega
  have hlen2 : (b ++ 32 :: c).length ≤ 1000000 := by simp at hs ⊢; omega
  have HC := Lib.hid (cut_sp_at a (b ++ 32 :: c) (w.alloc (.cells #[.int .i64 0, .string ByteArray.empty, .int .u64 0] 37)) (E.toEnv.now ((Below.refl _ _).alloc (Nat.le_refl _) _)) (by omega) ha)
  have HC2 := Lib.hid fun (W : World) (E : Env W) => cut_sp_at b c W E (by omega) hb
  have HX := Lib.hid hx
  have hd : ((b.length : Int) != 16) = true := by simp; omega
  clear hi ha hx hb hs hlen2
  generalize a ++ 32 :: (b ++ 32 :: c) = l at *
  generalize b ++ 32 :: c = r at *
  have hba : Below w.heap.size w (w.alloc (.cells #[.int .i64 0, .string ByteArray.empty, .int .u64 0] 37)) := (Below.refl _ _).alloc (Nat.le_refl _) _
  have hblk : Blk (w.alloc (.cells #[.int .i64 0, .string ByteArray.empty, .int .u64 0] 37)) w.heap.size 37 #[.int .i64 0, .string ByteArray.empty, .int .u64 0] := Blk.new _ _ _ _ rfl
  go_enter Tryd.func33, Tryd.ntmps33
  go_wp2_with fail
  refine HC.out.mono ?_
  rintro e w2 ⟨rfl, hb2⟩
  have hblk2 := hblk.now hb2
  have hB2 := bel_then hba hba.size hb2
  have E2 := E.now hB2
  go_wp2_with fail
  refine (intC HI.out w2 E2 hal).mono ?_
  rintro e w3 ⟨rfl, hb3⟩
  have hblk3 := hblk2.now hb3
  have hB3 := bel_then hB2 hB2.size hb3
  go_wp2_with fail
  refine (timelyC HX.out _ hn).mono ?_
  rintro e w4 ⟨rfl, rfl⟩
  have E3 := E.now hB3
  go_wp2_with fail
  refine (HC2.out _ E3.toEnv).mono ?_
  rintro e w4 ⟨rfl, hb4⟩
  have hblk4 := hblk3.now hb4
  have hB4 := bel_then hB3 hB3.size hb4
  have c0 : w4.cell? ⟨w.heap.size, 0, none⟩ = some (.int .i64 0) := hblk4.cell 0
  have c1 : w4.cell? ⟨w.heap.size, 1, none⟩ = some (.string ByteArray.empty) := hblk4.cell 1
  have c2 : w4.cell? ⟨w.heap.size, 2, none⟩ = some (.int .u64 0) := hblk4.cell 2
  have f0 : w4.frozen? ⟨w.heap.size, 0, none⟩ = false := hblk4.free 0
  have f1 : w4.frozen? ⟨w.heap.size, 1, none⟩ = false := hblk4.free 1
  have f2 : w4.frozen? ⟨w.heap.size, 2, none⟩ = false := hblk4.free 2
  go_wp2_with fail
  exact bodyPost_ret (v := .tuple #[.agg #[.int .i64 0, .string { data := #[] }, .int .u64 0], .bool false]) (by simp [results, Tryd.results33, go_sem, c0, c1, c2]) rfl (epost_no HF.out rfl (((hB4.setCell (p := ⟨w.heap.size, 0, none⟩) (Nat.le_refl _) _).setCell (p := ⟨w.heap.size, 1, none⟩) (Nat.le_refl _) _).setCell (p := ⟨w.heap.size, 2, none⟩) (Nat.le_refl _) _))
set_option maxRecDepth 100000 in
set_option maxHeartbeats 4000000 in
theorem entry_leg (a b c : List UInt8) (n : Int) (w : World) (E : EnvR w) (hs : (a ++ 32 :: (b ++ 32 :: c)).length ≤ 1000000) (ha : (32 : UInt8) ∉ a) (hb : (32 : UInt8) ∉ b) (hi : intF a = (n, 0)) (hn : I64n n) (hx : tmB n = true) (hl : b.length = 16) (hg : legB c = false) : Calls Tryd.prog 33 #[.string (bs (a ++ 32 :: (b ++ 32 :: c)))] w (EPost w (entF (a ++ 32 :: (b ++ 32 :: c)))) := by
  have HF := Lib.hid (entF_bad (c := c) ha hb hi (Or.inr (Or.inr (Or.inr hg))))
  have HI := Lib.hid hi
  have hal : a.length ≤ 281474976710656 := by simp at hs; omega
  have hbl : b.length ≤ 1000000 := by simp at hs; omega
  have hcl : c.length ≤ 9223372036854775807 := by simp at hs; omega
  have hlen2 : (b ++ 32 :: c).length ≤ 1000000 := by simp at hs ⊢; omega
  have HC := Lib.hid (cut_sp_at a (b ++ 32 :: c) (w.alloc (.cells #[.int .i64 0, .string ByteArray.empty, .int .u64 0] 37)) (E.toEnv.now ((Below.refl _ _).alloc (Nat.le_refl _) _)) (by omega) ha)
  have HC2 := Lib.hid fun (W : World) (E : Env W) => cut_sp_at b c W E (by omega) hb
  have HX := Lib.hid hx
  have HG := Lib.hid hg
  have hd : ((b.length : Int) != 16) = false := by simp; omega
  clear hi ha hx hb hs hlen2 hl hg
  generalize a ++ 32 :: (b ++ 32 :: c) = l at *
  generalize b ++ 32 :: c = r at *
  have hba : Below w.heap.size w (w.alloc (.cells #[.int .i64 0, .string ByteArray.empty, .int .u64 0] 37)) := (Below.refl _ _).alloc (Nat.le_refl _) _
  have hblk : Blk (w.alloc (.cells #[.int .i64 0, .string ByteArray.empty, .int .u64 0] 37)) w.heap.size 37 #[.int .i64 0, .string ByteArray.empty, .int .u64 0] := Blk.new _ _ _ _ rfl
  go_enter Tryd.func33, Tryd.ntmps33
  go_wp2_with fail
  refine HC.out.mono ?_
  rintro e w2 ⟨rfl, hb2⟩
  have hblk2 := hblk.now hb2
  have hB2 := bel_then hba hba.size hb2
  have E2 := E.now hB2
  go_wp2_with fail
  refine (intC HI.out w2 E2 hal).mono ?_
  rintro e w3 ⟨rfl, hb3⟩
  have hblk3 := hblk2.now hb3
  have hB3 := bel_then hB2 hB2.size hb3
  go_wp2_with fail
  refine (timelyC HX.out _ hn).mono ?_
  rintro e w4 ⟨rfl, rfl⟩
  have E3 := E.now hB3
  go_wp2_with fail
  refine (HC2.out _ E3.toEnv).mono ?_
  rintro e w4 ⟨rfl, hb4⟩
  have hblk4 := hblk3.now hb4
  have hB4 := bel_then hB3 hB3.size hb4
  have c0 : w4.cell? ⟨w.heap.size, 0, none⟩ = some (.int .i64 0) := hblk4.cell 0
  have c1 : w4.cell? ⟨w.heap.size, 1, none⟩ = some (.string ByteArray.empty) := hblk4.cell 1
  have c2 : w4.cell? ⟨w.heap.size, 2, none⟩ = some (.int .u64 0) := hblk4.cell 2
  have f0 : w4.frozen? ⟨w.heap.size, 0, none⟩ = false := hblk4.free 0
  have f1 : w4.frozen? ⟨w.heap.size, 1, none⟩ = false := hblk4.free 1
  have f2 : w4.frozen? ⟨w.heap.size, 2, none⟩ = false := hblk4.free 2
  go_wp2_with fail
  refine (legibleC HG.out _ hcl).mono ?_
  rintro e w5 ⟨rfl, rfl⟩
  go_wp2_with fail
  exact bodyPost_ret (v := .tuple #[.agg #[.int .i64 0, .string { data := #[] }, .int .u64 0], .bool false]) (by simp [results, Tryd.results33, go_sem, c0, c1, c2]) rfl (epost_no HF.out rfl (((hB4.setCell (p := ⟨w.heap.size, 0, none⟩) (Nat.le_refl _) _).setCell (p := ⟨w.heap.size, 1, none⟩) (Nat.le_refl _) _).setCell (p := ⟨w.heap.size, 2, none⟩) (Nat.le_refl _) _))
set_option maxRecDepth 100000 in
set_option maxHeartbeats 4000000 in
theorem entry_ok (a b c : List UInt8) (n : Int) (w : World) (E : EnvR w) (hs : (a ++ 32 :: (b ++ 32 :: c)).length ≤ 1000000) (ha : (32 : UInt8) ∉ a) (hb : (32 : UInt8) ∉ b) (hi : intF a = (n, 0)) (hn : I64n n) (hx : tmB n = true) (hl : b.length = 16) (hg : legB c = true) : Calls Tryd.prog 33 #[.string (bs (a ++ 32 :: (b ++ 32 :: c)))] w (EPost w (entF (a ++ 32 :: (b ++ 32 :: c)))) := by
  have HF0 := Lib.hid (entF_good (c := c) ha hb hi hx hl hg)
  have HI := Lib.hid hi
  have hal : a.length ≤ 281474976710656 := by simp at hs; omega
  have hbl : b.length ≤ 1000000 := by simp at hs; omega
  have hcl : c.length ≤ 9223372036854775807 := by simp at hs; omega
  have hlen2 : (b ++ 32 :: c).length ≤ 1000000 := by simp at hs ⊢; omega
  have HC := Lib.hid (cut_sp_at a (b ++ 32 :: c) (w.alloc (.cells #[.int .i64 0, .string ByteArray.empty, .int .u64 0] 37)) (E.toEnv.now ((Below.refl _ _).alloc (Nat.le_refl _) _)) (by omega) ha)
  have HC2 := Lib.hid fun (W : World) (E : Env W) => cut_sp_at b c W E (by omega) hb
  have HX := Lib.hid hx
  have HG := Lib.hid hg
  have HL := Lib.hid hl
  have hd : ((b.length : Int) != 16) = false := by simp; omega
  have hbi : (b.length : Int) = 16 := by omega
  clear hi ha hx hb hs hlen2 hl hg
  generalize a ++ 32 :: (b ++ 32 :: c) = l at *
  generalize b ++ 32 :: c = r at *
  have hba : Below w.heap.size w (w.alloc (.cells #[.int .i64 0, .string ByteArray.empty, .int .u64 0] 37)) := (Below.refl _ _).alloc (Nat.le_refl _) _
  have hblk : Blk (w.alloc (.cells #[.int .i64 0, .string ByteArray.empty, .int .u64 0] 37)) w.heap.size 37 #[.int .i64 0, .string ByteArray.empty, .int .u64 0] := Blk.new _ _ _ _ rfl
  go_enter Tryd.func33, Tryd.ntmps33
  go_wp2_with fail
  refine HC.out.mono ?_
  rintro e w2 ⟨rfl, hb2⟩
  have hblk2 := hblk.now hb2
  have hB2 := bel_then hba hba.size hb2
  have E2 := E.now hB2
  go_wp2_with fail
  refine (intC HI.out w2 E2 hal).mono ?_
  rintro e w3 ⟨rfl, hb3⟩
  have hblk3 := hblk2.now hb3
  have hB3 := bel_then hB2 hB2.size hb3
  go_wp2_with fail
  refine (timelyC HX.out _ hn).mono ?_
  rintro e w4 ⟨rfl, rfl⟩
  have E3 := E.now hB3
  go_wp2_with fail
  refine (HC2.out _ E3.toEnv).mono ?_
  rintro e w4 ⟨rfl, hb4⟩
  have hblk4 := hblk3.now hb4
  have hB4 := bel_then hB3 hB3.size hb4
  have c0 : w4.cell? ⟨w.heap.size, 0, none⟩ = some (.int .i64 0) := hblk4.cell 0
  have c1 : w4.cell? ⟨w.heap.size, 1, none⟩ = some (.string ByteArray.empty) := hblk4.cell 1
  have c2 : w4.cell? ⟨w.heap.size, 2, none⟩ = some (.int .u64 0) := hblk4.cell 2
  have f0 : w4.frozen? ⟨w.heap.size, 0, none⟩ = false := hblk4.free 0
  have f1 : w4.frozen? ⟨w.heap.size, 1, none⟩ = false := hblk4.free 1
  have f2 : w4.frozen? ⟨w.heap.size, 2, none⟩ = false := hblk4.free 2
  go_wp2_with fail
  refine (legibleC HG.out _ hcl).mono ?_
  rintro e w5 ⟨rfl, rfl⟩
  go_wp2_with fail
  go_loop [11, 57] (fun sm i => ∃ k v : Nat, k ≤ 16 ∧ i = .int .i64 k ∧ sm = .int .u64 v ∧ v < 16 ^ k ∧ Hid (hexV 0 (b.take k) = some v)) (fun _ i => 16 - (intOf i).toNat)
  case atStart => exact ⟨0, 0, by omega, rfl, rfl, by decide, Lib.hid (by simp [hexV])⟩
  case round =>
    obtain ⟨k, v, hk, rfl, rfl, hv, HV⟩ := hrel
    by_cases hlt : k < 16
    · have hkb : k < b.length := by rw [HL.out]; exact hlt
      have hv2 : v < 1152921504606846976 := Nat.lt_of_lt_of_le hv (pow16 k hlt)
      have hn1 : 16 ^ (k + 1) = 16 ^ k * 16 := Nat.pow_succ ..
      have hv3 : ∀ d, d < 16 → v * 16 + d < 16 ^ (k + 1) := fun d hd => by rw [hn1]; omega
      have HV3 := Lib.hid hv3
      clear hv3 hn1 hv
      rcases hxd_cases b[k] with ⟨d, hd, h1, h2, h3, h4⟩ | ⟨d, hd, h1, h2, h3, h4⟩ | ⟨h1, h2, h3⟩
      · have HN : Hid (hexV 0 (b.take (k + 1)) = some (v * 16 + d)) := Lib.hid (by rw [hexV_snoc hkb HV.out, h1]; rfl)
        have ho := or_hex v d hv2 hd
        have HVd := HV3.out d hd
        clear h1
        generalize hcc : b[k].toNat = cc at h2 h3 h4
        have hcd : (cc : Int) - 48 = (d : Int) := by omega
        clear h4
        go_wp2_with fail
        go_round
        case rel => exact ⟨k + 1, v * 16 + d, by omega, by go_num, rfl, HVd, HN⟩
        case measure => simp [intOf]; omega
      · have HN : Hid (hexV 0 (b.take (k + 1)) = some (v * 16 + d)) := Lib.hid (by rw [hexV_snoc hkb HV.out, h1]; rfl)
        have ho := or_hex v d hv2 hd
        have HVd := HV3.out d hd
        clear h1
        generalize hcc : b[k].toNat = cc at h2 h3 h4
        have hcd : (cc : Int) - 97 + 10 = (d : Int) := by omega
        clear h4
        go_wp2_with fail
        go_round
        case rel => exact ⟨k + 1, v * 16 + d, by omega, by go_num, rfl, HVd, HN⟩
        case measure => simp [intOf]; omega
      · have HF : Hid (entF l = none) := Lib.hid (by rw [HF0.out, hexV_stop hkb HV.out h1]; rfl)
        clear h1
        generalize hcc : b[k].toNat = cc at h2 h3
        rcases h2 with h2 | h2 <;> rcases h3 with h3 | h3
        all_goals try (exfalso; omega)
        all_goals go_wp2_with fail
        all_goals (
          exact bodyPost_ret (v := .tuple #[.agg #[.int .i64 0, .string { data := #[] }, .int .u64 0], .bool false]) (by simp [results, Tryd.results33, go_sem, c0, c1, c2]) rfl (epost_no HF.out rfl (((hB4.setCell (p := ⟨w.heap.size, 0, none⟩) (Nat.le_refl _) _).setCell (p := ⟨w.heap.size, 1, none⟩) (Nat.le_refl _) _).setCell (p := ⟨w.heap.size, 2, none⟩) (Nat.le_refl _) _)))
    · obtain rfl : k = 16 := by omega
      have HB : Hid (entF l = some ⟨n, c, v⟩) := Lib.hid (by
        have := HV.out
        rw [List.take_of_length_le (by rw [HL.out]; omega)] at this
        rw [HF0.out, this]; rfl)
      go_wp2_with fail
      exact bodyPost_ret (v := .tuple #[.agg #[.int .i64 n, .string (bs c), .int .u64 (v : Int)], .bool true]) (by simp [results, Tryd.results33, go_sem, c0, c1, c2]) rfl (epost_at HB.out rfl (((hB4.setCell (p := ⟨w.heap.size, 0, none⟩) (Nat.le_refl _) _).setCell (p := ⟨w.heap.size, 1, none⟩) (Nat.le_refl _) _).setCell (p := ⟨w.heap.size, 2, none⟩) (Nat.le_refl _) _))
end Go.Proofs.YtnckainiphlndaaDoor
