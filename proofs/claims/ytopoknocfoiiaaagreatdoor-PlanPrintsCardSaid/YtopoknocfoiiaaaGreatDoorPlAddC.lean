/- reader.add: the elements. -/
import Derived.Test.YtopoknocfoiiaaaGreatDoorPlAddAB
import Derived.Test.YtopoknocfoiiaaaGreatDoorPlKinds
import Derived.Deep.DeepCutAuto
namespace Go.Proofs.YtopoknocfoiiaaaGreatDoor
set_option linter.unusedVariables false
set_option linter.unusedSimpArgs false
open Go.RowKit
attribute [local go_sem] bs_size bs_get bs_append bs_extract bs_toList
attribute [-go_sem] run_equalIn_agg
/-- What region 2 leaves: the new element in a box of its own. -/
def ElBox (w : World) (g9 : Nat) (cs : Array Value) (wx : World) : Prop := w.heap.size ≤ g9 ∧ Blk wx g9 35 cs ∧ Below w.heap.size w wx
theorem ElBox.set {w wx : World} {g9 : Nat} {cs : Array Value} (h : ElBox w g9 cs wx) (i : Nat) (u : Value) : ElBox w g9 (cs.setIfInBounds i u) (wx.setCell ⟨g9, i, none⟩ u) := ⟨h.1, h.2.1.set i u, h.2.2.setCell (p := ⟨g9, i, none⟩) h.1 u⟩
theorem ElBox.now {w wx wy : World} {g9 : Nat} {cs : Array Value} (h : ElBox w g9 cs wx) (hb : Below wx.heap.size wx wy) : ElBox w g9 cs wy := ⟨h.1, h.2.1.now hb, bel_then h.2.2 h.2.2.size hb⟩
theorem ElBox.new {w wx : World} (hb : Below w.heap.size w wx) (cs : Array Value) : ElBox w wx.heap.size cs (wx.alloc (.cells cs 35)) := ⟨hb.size, Blk.new _ _ _ _ rfl, hb.alloc hb.size _⟩
def elCs (a b c d e f h : Value) : Array Value := #[a, b, c, d, e, f, h]
theorem elCs_all (a b c d e f h a' b' c' d' e' f' h' : Value) : (((((((elCs a b c d e f h).setIfInBounds 0 a').setIfInBounds 1 b').setIfInBounds 2 c').setIfInBounds 3 d').setIfInBounds 4 e').setIfInBounds 5 f').setIfInBounds 6 h' = elCs a' b' c' d' e' f' h' := by simp [elCs]
theorem ElBox.all {w wx : World} {g9 : Nat} {a b c d e f h : Value} (hh : ElBox w g9 (elCs a b c d e f h) wx) (a' b' c' d' e' f' h' : Value) : ElBox w g9 (elCs a' b' c' d' e' f' h') (((((((wx.setCell ⟨g9, 0, none⟩ a').setCell ⟨g9, 1, none⟩ b').setCell ⟨g9, 2, none⟩ c').setCell ⟨g9, 3, none⟩ d').setCell ⟨g9, 4, none⟩ e').setCell ⟨g9, 5, none⟩ f').setCell ⟨g9, 6, none⟩ h') := by
  have := ((((((hh.set 0 a').set 1 b').set 2 c').set 3 d').set 4 e').set 5 f').set 6 h'
  rw [elCs_all] at this
  exact this
theorem infoE : (Tryz.prog.info? 35).map (fun i => (i.zero, i.size, i.bytes)) = some (some (.agg #[.string ByteArray.empty, .int .i64 0, .int .i64 0, .int .i64 0, .int .i64 0, .int .i64 0, .int .i64 0]), 7, 64) := by kernel_rfl
set_option maxRecDepth 100000 in
set_option maxHeartbeats 8000000 in
theorem add_element (w : World) (g : Nat) (word : List UInt8) (hwl : word.length ≤ maxLen) (kd : Int) (hkd : kd = kindF word)
    (b1 : (word == [108, 97, 121, 111, 117, 116]) = false) (b2 : (word == [115, 101, 99, 116, 105, 111, 110]) = false) (b3 : (word == [106, 111, 105, 110, 116]) = false) (b4 : (word == [115, 105, 103, 110, 97, 108]) = false) (b5 : (word == [98, 97, 108, 105, 115, 101]) = false)
    (s : List UInt8) (b off n c : Nat) (hb : b < g) (hn : 0 < n) (y : w.cell? ⟨b, off, none⟩ = some (.string (bs s))) (hsl : s.length ≤ maxLen) (gi m : Nat) (cs : Array Value) (q1 q2 q3 q4 q5 : Int) (hi : Blk w gi 3 cs) (hm : 5 ≤ m)
    (z1 : cs[1]? = some (.int .i64 q1)) (z2 : cs[2]? = some (.int .i64 q2)) (z3 : cs[3]? = some (.int .i64 q3)) (z4 : cs[4]? = some (.int .i64 q4)) (z5 : kd = 2 → 5 < m ∧ cs[5]? = some (.int .i64 q5) ∧ I64n q5)
    (hkk : I64n kd) (hq1 : I64n q1) (hq2 : I64n q2) (hq3 : I64n q3) (hq4 : I64n q4) (l : Lay) (p : Int) (v1 v2 v3 v4 v5 : Value) (h : RW w g l p v1 v2 v3 v4 v5) (hl : l.els.length ≤ 100000) :
    Calls Tryz.prog 52 #[.pointer (some ⟨g, 0, none⟩), .string (bs word), .slice (some ⟨b, off, none⟩) n c, .slice (some ⟨gi, 0, none⟩) m m] w fun e w' => e = .returned (.tuple #[]) ∧ RWS w' g { l with els := l.els ++ [⟨s, kd, q2, q3, q4, if kd = 2 then q5 else 0, q1⟩] } p ∧ Below g w w' := by
  have hni : (0 : Int) < (n : Int) := by omega
  have hm1 : (1 : Int) < (m : Int) := by omega
  have hm2 : (2 : Int) < (m : Int) := by omega
  have hm3 : (3 : Int) < (m : Int) := by omega
  have hm4 : (4 : Int) < (m : Int) := by omega
  have hgw := h.blk.lt
  have hgl := Nat.le_of_lt hgw
  have HY : Hid (∀ W, Below w.heap.size w W → W.cell? ⟨b, off, none⟩ = some (.string (bs s))) := Lib.hid fun W hq => (hq.cell (p := ⟨b, off, none⟩) (Nat.lt_trans hb hgw)).trans y
  have HZ : Hid (∀ W, Below w.heap.size w W → ∀ j u, cs[j]? = some u → W.cell? ⟨gi, j, none⟩ = some u) := Lib.hid fun W hq j u hj => ((hi.now hq).cell j).trans hj
  have HZ1 := Lib.hid fun W hq => HZ.out W hq 1 _ z1
  have HZ2 := Lib.hid fun W hq => HZ.out W hq 2 _ z2
  have HZ3 := Lib.hid fun W hq => HZ.out W hq 3 _ z3
  have HZ4 := Lib.hid fun W hq => HZ.out W hq 4 _ z4
  have HZ5 := Lib.hid fun (hk : kd = 2) W hq => HZ.out W hq 5 _ (z5 hk).2.1
  have HM5 := Lib.hid fun (hk : kd = 2) => (show (5 : Int) < (m : Int) from by have := (z5 hk).1; omega)
  have HQ5 := Lib.hid fun (hk : kd = 2) => (z5 hk).2.2
  have HLK : Hid (∀ (W : World) (bm : Nat), KindsW W bm → (Instr.lookup 66 (.map (some bm)) (.string (bs word)) false).run Tryz.prog W = .ok (.int .i64 kd) W) := Lib.hid fun W bm hk => by rw [hkd]; exact kinds_look hk word hwl
  have H := Lib.hid h
  clear y z1 z2 z3 z4 z5 hkd HZ hi h
  go_enter Tryz.func52, Tryz.ntmps52
  go_upto_region 2 with (fail)
  go_cut [9] (fun s9 wx => ∃ g9 : Nat, s9 = .pointer (some ⟨g9, 0, none⟩) ∧ ElBox w g9 (elCs (.string (bs s)) (.int .i64 kd) (.int .i64 q2) (.int .i64 q3) (.int .i64 q4) (.int .i64 0) (.int .i64 q1)) wx)
  case first =>
    refine wp_region_held_drew (S := fun w' => Below w.heap.size w w') (by kernel_rfl) ((Below.refl _ _).drew) (fun hHeld => ?_)
    refine wpAnyH_take (i := 0) (oi := Go.Oper.mk (Option.some 14) (Go.Op.move (Go.Operand.tmp 2)) 22 "reader.go:106" #[] Option.none) (v := ?_) rfl (by kernel_rfl) (by kernel_rfl) (by kernel_rfl) (fun _ _ _ h => h) (Or.inl ⟨by rfl, ?_⟩) (by assumption) ?_
    rotate_left
    · intro W hSw; (try dsimp only at hSw); go_simp; (first | done | with_reducible rfl)
    try simp only [Act.put, List.setIfInBounds_toArray, List.set_cons_zero, List.set_cons_succ]
    refine wpAnyH_take (i := 1) (oi := Go.Oper.mk (Option.some 15) (Go.Op.indexAddr 22 (Go.Operand.tmp 14) (Go.Operand.const (Go.Value.int Go.IntKind.i64 0))) 0 "reader.go:106" #[Go.Edge.mk 0 Go.Ground.data] Option.none) (v := ?_) rfl (by kernel_rfl) (by kernel_rfl) (by kernel_rfl) (fun _ _ _ h => h) (Or.inl ⟨by rfl, ?_⟩) (by assumption) ?_
    rotate_left
    · intro W hSw; (try dsimp only at hSw); go_simp; (first | done | with_reducible rfl)
    try simp only [Act.put, List.setIfInBounds_toArray, List.set_cons_zero, List.set_cons_succ]
    refine wpAnyH_take (i := 2) (oi := Go.Oper.mk (Option.some 16) (Go.Op.load 9 (Go.Operand.tmp 15)) 9 "reader.go:106" #[Go.Edge.mk 1 Go.Ground.data] Option.none) (v := ?_) rfl (by kernel_rfl) (by kernel_rfl) (by kernel_rfl) (fun _ _ _ h => h) (Or.inl ⟨by rfl, ?_⟩) (by assumption) ?_
    rotate_left
    · intro W hSw; (try dsimp only at hSw); have y9 := HY.out W hSw; go_simp; (first | done | with_reducible rfl)
    try simp only [Act.put, List.setIfInBounds_toArray, List.set_cons_zero, List.set_cons_succ]
    refine wpAnyH_take (i := 4) (oi := Go.Oper.mk (Option.some 18) (Go.Op.move (Go.Operand.tmp 1)) 9 "reader.go:106" #[] Option.none) (v := ?_) rfl (by kernel_rfl) (by kernel_rfl) (by kernel_rfl) (fun _ _ _ h => h) (Or.inl ⟨by rfl, ?_⟩) (by assumption) ?_
    rotate_left
    · intro W hSw; (try dsimp only at hSw); go_simp; (first | done | with_reducible rfl)
    try simp only [Act.put, List.setIfInBounds_toArray, List.set_cons_zero, List.set_cons_succ]
    refine wpAnyH_take (i := 6) (oi := Go.Oper.mk (Option.some 20) (Go.Op.move (Go.Operand.tmp 3)) 68 "reader.go:106" #[] Option.none) (v := ?_) rfl (by kernel_rfl) (by kernel_rfl) (by kernel_rfl) (fun _ _ _ h => h) (Or.inl ⟨by rfl, ?_⟩) (by assumption) ?_
    rotate_left
    · intro W hSw; (try dsimp only at hSw); go_simp; (first | done | with_reducible rfl)
    try simp only [Act.put, List.setIfInBounds_toArray, List.set_cons_zero, List.set_cons_succ]
    refine wpAnyH_take (i := 7) (oi := Go.Oper.mk (Option.some 21) (Go.Op.indexAddr 68 (Go.Operand.tmp 20) (Go.Operand.const (Go.Value.int Go.IntKind.i64 1))) 0 "reader.go:106" #[Go.Edge.mk 6 Go.Ground.data] Option.none) (v := ?_) rfl (by kernel_rfl) (by kernel_rfl) (by kernel_rfl) (fun _ _ _ h => h) (Or.inl ⟨by rfl, ?_⟩) (by assumption) ?_
    rotate_left
    · intro W hSw; (try dsimp only at hSw); go_simp; (first | done | with_reducible rfl)
    try simp only [Act.put, List.setIfInBounds_toArray, List.set_cons_zero, List.set_cons_succ]
    refine wpAnyH_take (i := 8) (oi := Go.Oper.mk (Option.some 22) (Go.Op.load 3 (Go.Operand.tmp 21)) 3 "reader.go:106" #[Go.Edge.mk 7 Go.Ground.data] Option.none) (v := ?_) rfl (by kernel_rfl) (by kernel_rfl) (by kernel_rfl) (fun _ _ _ h => h) (Or.inl ⟨by rfl, ?_⟩) (by assumption) ?_
    rotate_left
    · intro W hSw; (try dsimp only at hSw); have y9 := HZ1.out W hSw; go_simp; (first | done | with_reducible rfl)
    try simp only [Act.put, List.setIfInBounds_toArray, List.set_cons_zero, List.set_cons_succ]
    refine wpAnyH_take (i := 9) (oi := Go.Oper.mk (Option.some 23) (Go.Op.move (Go.Operand.tmp 3)) 68 "reader.go:106" #[] Option.none) (v := ?_) rfl (by kernel_rfl) (by kernel_rfl) (by kernel_rfl) (fun _ _ _ h => h) (Or.inl ⟨by rfl, ?_⟩) (by assumption) ?_
    rotate_left
    · intro W hSw; (try dsimp only at hSw); go_simp; (first | done | with_reducible rfl)
    try simp only [Act.put, List.setIfInBounds_toArray, List.set_cons_zero, List.set_cons_succ]
    refine wpAnyH_take (i := 10) (oi := Go.Oper.mk (Option.some 24) (Go.Op.indexAddr 68 (Go.Operand.tmp 23) (Go.Operand.const (Go.Value.int Go.IntKind.i64 2))) 0 "reader.go:106" #[Go.Edge.mk 9 Go.Ground.data] Option.none) (v := ?_) rfl (by kernel_rfl) (by kernel_rfl) (by kernel_rfl) (fun _ _ _ h => h) (Or.inl ⟨by rfl, ?_⟩) (by assumption) ?_
    rotate_left
    · intro W hSw; (try dsimp only at hSw); go_simp; (first | done | with_reducible rfl)
    try simp only [Act.put, List.setIfInBounds_toArray, List.set_cons_zero, List.set_cons_succ]
    refine wpAnyH_take (i := 11) (oi := Go.Oper.mk (Option.some 25) (Go.Op.load 3 (Go.Operand.tmp 24)) 3 "reader.go:106" #[Go.Edge.mk 10 Go.Ground.data] Option.none) (v := ?_) rfl (by kernel_rfl) (by kernel_rfl) (by kernel_rfl) (fun _ _ _ h => h) (Or.inl ⟨by rfl, ?_⟩) (by assumption) ?_
    rotate_left
    · intro W hSw; (try dsimp only at hSw); have y9 := HZ2.out W hSw; go_simp; (first | done | with_reducible rfl)
    try simp only [Act.put, List.setIfInBounds_toArray, List.set_cons_zero, List.set_cons_succ]
    refine wpAnyH_take (i := 12) (oi := Go.Oper.mk (Option.some 26) (Go.Op.move (Go.Operand.tmp 3)) 68 "reader.go:106" #[] Option.none) (v := ?_) rfl (by kernel_rfl) (by kernel_rfl) (by kernel_rfl) (fun _ _ _ h => h) (Or.inl ⟨by rfl, ?_⟩) (by assumption) ?_
    rotate_left
    · intro W hSw; (try dsimp only at hSw); go_simp; (first | done | with_reducible rfl)
    try simp only [Act.put, List.setIfInBounds_toArray, List.set_cons_zero, List.set_cons_succ]
    refine wpAnyH_take (i := 13) (oi := Go.Oper.mk (Option.some 27) (Go.Op.indexAddr 68 (Go.Operand.tmp 26) (Go.Operand.const (Go.Value.int Go.IntKind.i64 3))) 0 "reader.go:106" #[Go.Edge.mk 12 Go.Ground.data] Option.none) (v := ?_) rfl (by kernel_rfl) (by kernel_rfl) (by kernel_rfl) (fun _ _ _ h => h) (Or.inl ⟨by rfl, ?_⟩) (by assumption) ?_
    rotate_left
    · intro W hSw; (try dsimp only at hSw); go_simp; (first | done | with_reducible rfl)
    try simp only [Act.put, List.setIfInBounds_toArray, List.set_cons_zero, List.set_cons_succ]
    refine wpAnyH_take (i := 14) (oi := Go.Oper.mk (Option.some 28) (Go.Op.load 3 (Go.Operand.tmp 27)) 3 "reader.go:106" #[Go.Edge.mk 13 Go.Ground.data] Option.none) (v := ?_) rfl (by kernel_rfl) (by kernel_rfl) (by kernel_rfl) (fun _ _ _ h => h) (Or.inl ⟨by rfl, ?_⟩) (by assumption) ?_
    rotate_left
    · intro W hSw; (try dsimp only at hSw); have y9 := HZ3.out W hSw; go_simp; (first | done | with_reducible rfl)
    try simp only [Act.put, List.setIfInBounds_toArray, List.set_cons_zero, List.set_cons_succ]
    refine wpAnyH_take (i := 15) (oi := Go.Oper.mk (Option.some 29) (Go.Op.move (Go.Operand.tmp 3)) 68 "reader.go:106" #[] Option.none) (v := ?_) rfl (by kernel_rfl) (by kernel_rfl) (by kernel_rfl) (fun _ _ _ h => h) (Or.inl ⟨by rfl, ?_⟩) (by assumption) ?_
    rotate_left
    · intro W hSw; (try dsimp only at hSw); go_simp; (first | done | with_reducible rfl)
    try simp only [Act.put, List.setIfInBounds_toArray, List.set_cons_zero, List.set_cons_succ]
    refine wpAnyH_take (i := 16) (oi := Go.Oper.mk (Option.some 30) (Go.Op.indexAddr 68 (Go.Operand.tmp 29) (Go.Operand.const (Go.Value.int Go.IntKind.i64 4))) 0 "reader.go:106" #[Go.Edge.mk 15 Go.Ground.data] Option.none) (v := ?_) rfl (by kernel_rfl) (by kernel_rfl) (by kernel_rfl) (fun _ _ _ h => h) (Or.inl ⟨by rfl, ?_⟩) (by assumption) ?_
    rotate_left
    · intro W hSw; (try dsimp only at hSw); go_simp; (first | done | with_reducible rfl)
    try simp only [Act.put, List.setIfInBounds_toArray, List.set_cons_zero, List.set_cons_succ]
    refine wpAnyH_take (i := 17) (oi := Go.Oper.mk (Option.some 31) (Go.Op.load 3 (Go.Operand.tmp 30)) 3 "reader.go:106" #[Go.Edge.mk 16 Go.Ground.data] Option.none) (v := ?_) rfl (by kernel_rfl) (by kernel_rfl) (by kernel_rfl) (fun _ _ _ h => h) (Or.inl ⟨by rfl, ?_⟩) (by assumption) ?_
    rotate_left
    · intro W hSw; (try dsimp only at hSw); have y9 := HZ4.out W hSw; go_simp; (first | done | with_reducible rfl)
    try simp only [Act.put, List.setIfInBounds_toArray, List.set_cons_zero, List.set_cons_succ]
    refine wpAnyH_ready (rs := [3, 19]) (by kernel_rfl) (by simp) (AllReadyH.cons (o := Go.Oper.mk (Option.some 17) (Go.Op.call (Go.Call.mk (Go.Callee.value (Go.Operand.func 32)) #[] #[])) 66 "reader.go:106" #[] Option.none) rfl (fun K hK => ?_) (AllReadyH.cons (o := Go.Oper.mk (Option.some 9) (Go.Op.alloc 35) 0 "reader.go:106" #[] Option.none) rfl (fun K hK => ?_) AllReadyH.nil))
    · go_simp
      go_at_call 32
      refine (kinds_any _).mono ?_
      rintro e wq ⟨bm, rfl, hkm, hq⟩
      have hB9 : Below w.heap.size w wq := bel_then (Below.refl _ _).drew (Nat.le_refl _) hq
      have hlk := HLK.out _ _ hkm
      refine hK.out _ _ ?_ (fun hHeld => ?_)
      · exact hB9
      clear hK K
      try simp only [Act.put, List.setIfInBounds_toArray, List.set_cons_zero, List.set_cons_succ]
      refine wpAnyH_ready (rs := [5, 19]) (by kernel_rfl) (by simp) (AllReadyH.cons (o := Go.Oper.mk (Option.some 19) (Go.Op.lookup 66 (Go.Operand.tmp 17) (Go.Operand.tmp 18) Bool.false) 3 "reader.go:106" #[Go.Edge.mk 3 Go.Ground.data, Go.Edge.mk 4 Go.Ground.data] Option.none) rfl (fun K hK => ?_) (AllReadyH.cons (o := Go.Oper.mk (Option.some 9) (Go.Op.alloc 35) 0 "reader.go:106" #[] Option.none) rfl (fun K hK => ?_) AllReadyH.nil))
      · go_simp
        refine hK.out _ _ ?_ (fun hHeld => ?_)
        · exact hB9
        clear hK K
        try simp only [Act.put, List.setIfInBounds_toArray, List.set_cons_zero, List.set_cons_succ]
        refine wpAnyH_take (i := 18) (oi := Go.Oper.mk (Option.some 32) (Go.Op.build 35 #[(0, Go.Operand.tmp 16), (1, Go.Operand.tmp 19), (6, Go.Operand.tmp 22), (2, Go.Operand.tmp 25), (3, Go.Operand.tmp 28), (4, Go.Operand.tmp 31)]) 35 "reader.go:106" #[Go.Edge.mk 2 Go.Ground.data, Go.Edge.mk 5 Go.Ground.data, Go.Edge.mk 8 Go.Ground.data, Go.Edge.mk 11 Go.Ground.data, Go.Edge.mk 14 Go.Ground.data, Go.Edge.mk 17 Go.Ground.data] Option.none) (v := ?_) rfl (by kernel_rfl) (by kernel_rfl) (by kernel_rfl) (fun _ _ _ h => h) (Or.inl ⟨by rfl, ?_⟩) (by assumption) ?_
        rotate_left
        · intro W hSw; (try dsimp only at hSw); go_simp; (first | done | with_reducible rfl)
        try simp only [Act.put, List.setIfInBounds_toArray, List.set_cons_zero, List.set_cons_succ]
        refine wpAnyH_ready (rs := [19]) (by kernel_rfl) (by simp) (AllReadyH.cons (o := Go.Oper.mk (Option.some 9) (Go.Op.alloc 35) 0 "reader.go:106" #[] Option.none) rfl (fun K hK => ?_) AllReadyH.nil)
        have hE9 := ElBox.new hB9 (elCs (.string { data := #[] }) (.int .i64 0) (.int .i64 0) (.int .i64 0) (.int .i64 0) (.int .i64 0) (.int .i64 0))
        go_simp
        refine hK.out _ _ ?_ (fun hHeld => ?_)
        · exact hE9.2.2
        clear hK K
        try simp only [Act.put, List.setIfInBounds_toArray, List.set_cons_zero, List.set_cons_succ]
        refine wpAnyH_ready (rs := [20]) (by kernel_rfl) (by simp) (AllReadyH.cons (o := Go.Oper.mk Option.none (Go.Op.store 35 (Go.Operand.tmp 9) (Go.Operand.tmp 32)) 0 "reader.go:106" #[Go.Edge.mk 19 Go.Ground.data, Go.Edge.mk 18 Go.Ground.data, Go.Edge.mk 3 Go.Ground.chain, Go.Edge.mk 0 Go.Ground.phase, Go.Edge.mk 1 Go.Ground.phase, Go.Edge.mk 2 Go.Ground.phase, Go.Edge.mk 3 Go.Ground.phase, Go.Edge.mk 4 Go.Ground.phase, Go.Edge.mk 5 Go.Ground.phase, Go.Edge.mk 6 Go.Ground.phase, Go.Edge.mk 7 Go.Ground.phase, Go.Edge.mk 8 Go.Ground.phase, Go.Edge.mk 9 Go.Ground.phase, Go.Edge.mk 10 Go.Ground.phase, Go.Edge.mk 11 Go.Ground.phase, Go.Edge.mk 12 Go.Ground.phase, Go.Edge.mk 13 Go.Ground.phase, Go.Edge.mk 14 Go.Ground.phase, Go.Edge.mk 15 Go.Ground.phase, Go.Edge.mk 16 Go.Ground.phase, Go.Edge.mk 17 Go.Ground.phase, Go.Edge.mk 18 Go.Ground.phase, Go.Edge.mk 19 Go.Ground.phase] Option.none) rfl (fun K hK => ?_) AllReadyH.nil)
        have HE9 := Lib.hid (ElBox.new hB9 (elCs (.string (bs s)) (.int .i64 kd) (.int .i64 q2) (.int .i64 q3) (.int .i64 q4) (.int .i64 0) (.int .i64 q1)))
        go_simp
        refine hK.out _ _ ?_ (fun hHeld => ?_)
        · exact HE9.out.2.2
        clear hK K
        try simp only [Act.put, List.setIfInBounds_toArray, List.set_cons_zero, List.set_cons_succ]
        refine wpAnyH_done (by kernel_rfl) ?_ _
        go_wp2_with fail
        go_meet
        exact ⟨_, rfl, HE9.out⟩
      · have hE9 := ElBox.new hB9 (elCs (.string { data := #[] }) (.int .i64 0) (.int .i64 0) (.int .i64 0) (.int .i64 0) (.int .i64 0) (.int .i64 0))
        have hlk := HLK.out _ _ (hkm.now ((Below.refl wq.heap.size wq).alloc (Nat.le_refl _) (.cells #[.string { data := #[] }, .int .i64 0, .int .i64 0, .int .i64 0, .int .i64 0, .int .i64 0, .int .i64 0] 35)))
        go_simp
        refine hK.out _ _ ?_ (fun hHeld => ?_)
        · exact hE9.2.2
        clear hK K
        try simp only [Act.put, List.setIfInBounds_toArray, List.set_cons_zero, List.set_cons_succ]
        refine wpAnyH_ready (rs := [5]) (by kernel_rfl) (by simp) (AllReadyH.cons (o := Go.Oper.mk (Option.some 19) (Go.Op.lookup 66 (Go.Operand.tmp 17) (Go.Operand.tmp 18) Bool.false) 3 "reader.go:106" #[Go.Edge.mk 3 Go.Ground.data, Go.Edge.mk 4 Go.Ground.data] Option.none) rfl (fun K hK => ?_) AllReadyH.nil)
        go_simp
        refine hK.out _ _ ?_ (fun hHeld => ?_)
        · exact hE9.2.2
        clear hK K
        try simp only [Act.put, List.setIfInBounds_toArray, List.set_cons_zero, List.set_cons_succ]
        refine wpAnyH_take (i := 18) (oi := Go.Oper.mk (Option.some 32) (Go.Op.build 35 #[(0, Go.Operand.tmp 16), (1, Go.Operand.tmp 19), (6, Go.Operand.tmp 22), (2, Go.Operand.tmp 25), (3, Go.Operand.tmp 28), (4, Go.Operand.tmp 31)]) 35 "reader.go:106" #[Go.Edge.mk 2 Go.Ground.data, Go.Edge.mk 5 Go.Ground.data, Go.Edge.mk 8 Go.Ground.data, Go.Edge.mk 11 Go.Ground.data, Go.Edge.mk 14 Go.Ground.data, Go.Edge.mk 17 Go.Ground.data] Option.none) (v := ?_) rfl (by kernel_rfl) (by kernel_rfl) (by kernel_rfl) (fun _ _ _ h => h) (Or.inl ⟨by rfl, ?_⟩) (by assumption) ?_
        rotate_left
        · intro W hSw; (try dsimp only at hSw); go_simp; (first | done | with_reducible rfl)
        try simp only [Act.put, List.setIfInBounds_toArray, List.set_cons_zero, List.set_cons_succ]
        refine wpAnyH_ready (rs := [20]) (by kernel_rfl) (by simp) (AllReadyH.cons (o := Go.Oper.mk Option.none (Go.Op.store 35 (Go.Operand.tmp 9) (Go.Operand.tmp 32)) 0 "reader.go:106" #[Go.Edge.mk 19 Go.Ground.data, Go.Edge.mk 18 Go.Ground.data, Go.Edge.mk 3 Go.Ground.chain, Go.Edge.mk 0 Go.Ground.phase, Go.Edge.mk 1 Go.Ground.phase, Go.Edge.mk 2 Go.Ground.phase, Go.Edge.mk 3 Go.Ground.phase, Go.Edge.mk 4 Go.Ground.phase, Go.Edge.mk 5 Go.Ground.phase, Go.Edge.mk 6 Go.Ground.phase, Go.Edge.mk 7 Go.Ground.phase, Go.Edge.mk 8 Go.Ground.phase, Go.Edge.mk 9 Go.Ground.phase, Go.Edge.mk 10 Go.Ground.phase, Go.Edge.mk 11 Go.Ground.phase, Go.Edge.mk 12 Go.Ground.phase, Go.Edge.mk 13 Go.Ground.phase, Go.Edge.mk 14 Go.Ground.phase, Go.Edge.mk 15 Go.Ground.phase, Go.Edge.mk 16 Go.Ground.phase, Go.Edge.mk 17 Go.Ground.phase, Go.Edge.mk 18 Go.Ground.phase, Go.Edge.mk 19 Go.Ground.phase] Option.none) rfl (fun K hK => ?_) AllReadyH.nil)
        have HE9 := Lib.hid (ElBox.new hB9 (elCs (.string (bs s)) (.int .i64 kd) (.int .i64 q2) (.int .i64 q3) (.int .i64 q4) (.int .i64 0) (.int .i64 q1)))
        go_simp
        refine hK.out _ _ ?_ (fun hHeld => ?_)
        · exact HE9.out.2.2
        clear hK K
        try simp only [Act.put, List.setIfInBounds_toArray, List.set_cons_zero, List.set_cons_succ]
        refine wpAnyH_done (by kernel_rfl) ?_ _
        go_wp2_with fail
        go_meet
        exact ⟨_, rfl, HE9.out⟩
    · have hE8 : ElBox w w.heap.size (elCs (.string { data := #[] }) (.int .i64 0) (.int .i64 0) (.int .i64 0) (.int .i64 0) (.int .i64 0) (.int .i64 0)) (w.drew.alloc (.cells (elCs (.string { data := #[] }) (.int .i64 0) (.int .i64 0) (.int .i64 0) (.int .i64 0) (.int .i64 0) (.int .i64 0)) 35)) := ElBox.new ((Below.refl w.heap.size w).drew) (elCs (.string { data := #[] }) (.int .i64 0) (.int .i64 0) (.int .i64 0) (.int .i64 0) (.int .i64 0) (.int .i64 0))
      go_simp
      refine hK.out _ _ ?_ (fun hHeld => ?_)
      · exact hE8.2.2
      clear hK K
      try simp only [Act.put, List.setIfInBounds_toArray, List.set_cons_zero, List.set_cons_succ]
      refine wpAnyH_ready (rs := [3]) (by kernel_rfl) (by simp) (AllReadyH.cons (o := Go.Oper.mk (Option.some 17) (Go.Op.call (Go.Call.mk (Go.Callee.value (Go.Operand.func 32)) #[] #[])) 66 "reader.go:106" #[] Option.none) rfl (fun K hK => ?_) AllReadyH.nil)
      go_simp
      go_at_call 32
      refine (kinds_any _).mono ?_
      rintro e wq ⟨bm, rfl, hkm, hq⟩
      have hE9 := hE8.now hq
      have hlk := HLK.out _ _ hkm
      refine hK.out _ _ ?_ (fun hHeld => ?_)
      · exact hE9.2.2
      clear hK K
      try simp only [Act.put, List.setIfInBounds_toArray, List.set_cons_zero, List.set_cons_succ]
      refine wpAnyH_ready (rs := [5]) (by kernel_rfl) (by simp) (AllReadyH.cons (o := Go.Oper.mk (Option.some 19) (Go.Op.lookup 66 (Go.Operand.tmp 17) (Go.Operand.tmp 18) Bool.false) 3 "reader.go:106" #[Go.Edge.mk 3 Go.Ground.data, Go.Edge.mk 4 Go.Ground.data] Option.none) rfl (fun K hK => ?_) AllReadyH.nil)
      go_simp
      refine hK.out _ _ ?_ (fun hHeld => ?_)
      · exact hE9.2.2
      clear hK K
      try simp only [Act.put, List.setIfInBounds_toArray, List.set_cons_zero, List.set_cons_succ]
      refine wpAnyH_take (i := 18) (oi := Go.Oper.mk (Option.some 32) (Go.Op.build 35 #[(0, Go.Operand.tmp 16), (1, Go.Operand.tmp 19), (6, Go.Operand.tmp 22), (2, Go.Operand.tmp 25), (3, Go.Operand.tmp 28), (4, Go.Operand.tmp 31)]) 35 "reader.go:106" #[Go.Edge.mk 2 Go.Ground.data, Go.Edge.mk 5 Go.Ground.data, Go.Edge.mk 8 Go.Ground.data, Go.Edge.mk 11 Go.Ground.data, Go.Edge.mk 14 Go.Ground.data, Go.Edge.mk 17 Go.Ground.data] Option.none) (v := ?_) rfl (by kernel_rfl) (by kernel_rfl) (by kernel_rfl) (fun _ _ _ h => h) (Or.inl ⟨by rfl, ?_⟩) (by assumption) ?_
      rotate_left
      · intro W hSw; (try dsimp only at hSw); go_simp; (first | done | with_reducible rfl)
      try simp only [Act.put, List.setIfInBounds_toArray, List.set_cons_zero, List.set_cons_succ]
      refine wpAnyH_ready (rs := [20]) (by kernel_rfl) (by simp) (AllReadyH.cons (o := Go.Oper.mk Option.none (Go.Op.store 35 (Go.Operand.tmp 9) (Go.Operand.tmp 32)) 0 "reader.go:106" #[Go.Edge.mk 19 Go.Ground.data, Go.Edge.mk 18 Go.Ground.data, Go.Edge.mk 3 Go.Ground.chain, Go.Edge.mk 0 Go.Ground.phase, Go.Edge.mk 1 Go.Ground.phase, Go.Edge.mk 2 Go.Ground.phase, Go.Edge.mk 3 Go.Ground.phase, Go.Edge.mk 4 Go.Ground.phase, Go.Edge.mk 5 Go.Ground.phase, Go.Edge.mk 6 Go.Ground.phase, Go.Edge.mk 7 Go.Ground.phase, Go.Edge.mk 8 Go.Ground.phase, Go.Edge.mk 9 Go.Ground.phase, Go.Edge.mk 10 Go.Ground.phase, Go.Edge.mk 11 Go.Ground.phase, Go.Edge.mk 12 Go.Ground.phase, Go.Edge.mk 13 Go.Ground.phase, Go.Edge.mk 14 Go.Ground.phase, Go.Edge.mk 15 Go.Ground.phase, Go.Edge.mk 16 Go.Ground.phase, Go.Edge.mk 17 Go.Ground.phase, Go.Edge.mk 18 Go.Ground.phase, Go.Edge.mk 19 Go.Ground.phase] Option.none) rfl (fun K hK => ?_) AllReadyH.nil)
      have HE9 := Lib.hid (hE9.all (.string (bs s)) (.int .i64 kd) (.int .i64 q2) (.int .i64 q3) (.int .i64 q4) (.int .i64 0) (.int .i64 q1))
      have hfb := fun i => hE9.2.1.free i
      have hl9 := hE9.2.1.lt
      have hx0 := hE9.2.1.cell 0
      have hx1 := hE9.2.1.cell 1
      have hx2 := hE9.2.1.cell 2
      have hx3 := hE9.2.1.cell 3
      have hx4 := hE9.2.1.cell 4
      have hx5 := hE9.2.1.cell 5
      have hx6 := hE9.2.1.cell 6
      simp only [elCs, List.getElem?_toArray, List.getElem?_cons_zero, List.getElem?_cons_succ] at hx0 hx1 hx2 hx3 hx4 hx5 hx6
      go_simp
      refine hK.out _ _ ?_ (fun hHeld => ?_)
      · exact HE9.out.2.2
      clear hK K
      try simp only [Act.put, List.setIfInBounds_toArray, List.set_cons_zero, List.set_cons_succ]
      refine wpAnyH_done (by kernel_rfl) ?_ _
      go_wp2_with fail
      go_meet
      exact ⟨_, rfl, HE9.out⟩
  case rest =>
    obtain ⟨g9, rfl, hE⟩ := hcut
    have HE := Lib.hid hE
    have h := H.out.now hE.2.2
    have hgx := h.blk.lt
    have hg9 : g < g9 := Nat.lt_of_lt_of_le hgw hE.1
    have hbx : Below g w wc := hE.2.2.mono hgl
    have k1 : wc.cell? ⟨g9, 1, none⟩ = some (.int .i64 kd) := hE.2.1.cell 1
    have k5 := hE.2.1.free 5
    have k5c : wc.cell? ⟨g9, 5, none⟩ = some (.int .i64 0) := hE.2.1.cell 5
    have klt := hE.2.1.lt
    clear hE
    by_cases hk2 : kd = 2
    · subst hk2
      have hm5 := HM5.out rfl
      have hqs := HQ5.out rfl
      have y5 := HZ5.out rfl _ HE.out.2.2
      clear HZ5 HM5 HQ5 HZ1 HZ2 HZ3 HZ4 HLK HY
      have hEz := (show ElBox w g9 (elCs (.string (bs s)) (.int .i64 2) (.int .i64 q2) (.int .i64 q3) (.int .i64 q4) (.int .i64 q5) (.int .i64 q1)) (wc.setCell ⟨g9, 5, none⟩ (.int .i64 q5)) from HE.out.set 5 (.int .i64 q5))
      have hbz : Below g w (wc.setCell ⟨g9, 5, none⟩ (.int .i64 q5)) := hEz.2.2.mono hgl
      have hz : RW (wc.setCell ⟨g9, 5, none⟩ (.int .i64 q5)) g l p v1 v2 v3 v4 v5 := H.out.now hEz.2.2
      have HEz := Lib.hid hEz
      have HBz := Lib.hid hbz
      have Hz := Lib.hid hz
      clear hEz hbz hz
      go_wp2_with fail
      have hEz := HEz.out
      have hbz := HBz.out
      have h := Hz.out
      generalize wc.setCell ⟨g9, 5, none⟩ (.int .i64 q5) = wz at h hEz hbz ⊢
      obtain ⟨i0, hi0, hz0, hz1, hz2⟩ := info_parts infoE
      have x2 := h.x2
      have e0 : wz.cell? ⟨g9, 0, none⟩ = some (.string (bs s)) := hEz.2.1.cell 0
      have e1 : wz.cell? ⟨g9, 1, none⟩ = some (.int .i64 2) := hEz.2.1.cell 1
      have e2 : wz.cell? ⟨g9, 2, none⟩ = some (.int .i64 q2) := hEz.2.1.cell 2
      have e3 : wz.cell? ⟨g9, 3, none⟩ = some (.int .i64 q3) := hEz.2.1.cell 3
      have e4 : wz.cell? ⟨g9, 4, none⟩ = some (.int .i64 q4) := hEz.2.1.cell 4
      have e5 : wz.cell? ⟨g9, 5, none⟩ = some (.int .i64 q5) := hEz.2.1.cell 5
      have e6 : wz.cell? ⟨g9, 6, none⟩ = some (.int .i64 q1) := hEz.2.1.cell 6
      refine wp_region_held_drew (S := (fun w' => Below g w w')) (by kernel_rfl) (hbz.drew) (fun hHeld => ?_)
      refine wpAnyH_take (i := 0) (oi := Go.Oper.mk (Option.some 40) (Go.Op.move (Go.Operand.tmp 8)) 114 "reader.go:110" #[] Option.none) (v := ?_) rfl (by kernel_rfl) (by kernel_rfl) (by kernel_rfl) (fun _ _ _ h => h) (Or.inl ⟨by rfl, ?_⟩) (by assumption) ?_
      rotate_left
      · intro W hSw; (try dsimp only at hSw); go_simp; (first | done | with_reducible rfl)
      try simp only [Act.put, List.setIfInBounds_toArray, List.set_cons_zero, List.set_cons_succ]
      refine wpAnyH_take (i := 1) (oi := Go.Oper.mk (Option.some 41) (Go.Op.move (Go.Operand.tmp 8)) 114 "reader.go:110" #[] Option.none) (v := ?_) rfl (by kernel_rfl) (by kernel_rfl) (by kernel_rfl) (fun _ _ _ h => h) (Or.inl ⟨by rfl, ?_⟩) (by assumption) ?_
      rotate_left
      · intro W hSw; (try dsimp only at hSw); go_simp; (first | done | with_reducible rfl)
      try simp only [Act.put, List.setIfInBounds_toArray, List.set_cons_zero, List.set_cons_succ]
      refine wpAnyH_take (i := 2) (oi := Go.Oper.mk (Option.some 42) (Go.Op.nilCheck (Go.Operand.tmp 41)) 0 "reader.go:110" #[Go.Edge.mk 1 Go.Ground.data] Option.none) (v := ?_) rfl (by kernel_rfl) (by kernel_rfl) (by kernel_rfl) (fun _ _ _ h => h) (Or.inl ⟨by rfl, ?_⟩) (by assumption) ?_
      rotate_left
      · intro W hSw; (try dsimp only at hSw); go_simp; (first | done | with_reducible rfl)
      try simp only [Act.put, List.setIfInBounds_toArray, List.set_cons_zero, List.set_cons_succ]
      refine wpAnyH_take (i := 3) (oi := Go.Oper.mk (Option.some 43) (Go.Op.fieldAddr 28 (Go.Operand.tmp 42) 2) 0 "reader.go:110" #[Go.Edge.mk 2 Go.Ground.data] Option.none) (v := ?_) rfl (by kernel_rfl) (by kernel_rfl) (by kernel_rfl) (fun _ _ _ h => h) (Or.inl ⟨by rfl, ?_⟩) (by assumption) ?_
      rotate_left
      · intro W hSw; (try dsimp only at hSw); go_simp; (first | done | with_reducible rfl)
      try simp only [Act.put, List.setIfInBounds_toArray, List.set_cons_zero, List.set_cons_succ]
      refine wpAnyH_ready (rs := [4, 5]) (by kernel_rfl) (by simp) (AllReadyH.cons (o := Go.Oper.mk (Option.some 44) (Go.Op.load 23 (Go.Operand.tmp 43)) 23 "reader.go:110" #[Go.Edge.mk 3 Go.Ground.data] Option.none) rfl (fun K hK => ?_) (AllReadyH.cons (o := Go.Oper.mk (Option.some 45) (Go.Op.load 35 (Go.Operand.tmp 9)) 35 "reader.go:110" #[] Option.none) rfl (fun K hK => ?_) AllReadyH.nil))
      · go_simp
        refine hK.out _ _ ?_ (fun hHeld => ?_)
        · exact hbz.drew
        clear hK K
        try simp only [Act.put, List.setIfInBounds_toArray, List.set_cons_zero, List.set_cons_succ]
        refine wpAnyH_ready (rs := [5]) (by kernel_rfl) (by simp) (AllReadyH.cons (o := Go.Oper.mk (Option.some 45) (Go.Op.load 35 (Go.Operand.tmp 9)) 35 "reader.go:110" #[] Option.none) rfl (fun K hK => ?_) AllReadyH.nil)
        go_simp
        refine hK.out _ _ ?_ (fun hHeld => ?_)
        · exact hbz.drew
        clear hK K
        try simp only [Act.put, List.setIfInBounds_toArray, List.set_cons_zero, List.set_cons_succ]
        refine wpAnyH_ready (rs := [6]) (by kernel_rfl) (by simp) (AllReadyH.cons (o := Go.Oper.mk (Option.some 46) (Go.Op.buildSlice 23 1 #[(0, Go.Operand.tmp 45)]) 23 "reader.go:110" #[Go.Edge.mk 5 Go.Ground.data] Option.none) rfl (fun K hK => ?_) AllReadyH.nil)
        go_simp
        refine hK.out _ _ ?_ (fun hHeld => ?_)
        · exact (hbz.drew.alloc (Nat.le_of_lt h.blk.lt) _)
        clear hK K
        try simp only [Act.put, List.setIfInBounds_toArray, List.set_cons_zero, List.set_cons_succ]
        have hb1 : Below g w _ := (hbz.drew.alloc (Nat.le_of_lt h.blk.lt) (.cells #[.string (bs s), .int .i64 2, .int .i64 q2, .int .i64 q3, .int .i64 q4, .int .i64 q5, .int .i64 q1] 35))
        have h1 := h.drew.alloc (.cells #[.string (bs s), .int .i64 2, .int .i64 q2, .int .i64 q3, .int .i64 q4, .int .i64 q5, .int .i64 q1] 35)
        refine wpAnyH_ready (rs := [7]) (by kernel_rfl) (by simp) (AllReadyH.cons (o := Go.Oper.mk (Option.some 47) (Go.Op.call (Go.Call.mk (Go.Callee.builtin Go.Builtin.append) #[Go.Operand.tmp 44, Go.Operand.tmp 46] #[23, 23])) 23 "reader.go:110" #[Go.Edge.mk 4 Go.Ground.data, Go.Edge.mk 6 Go.Ground.data] Option.none) rfl (fun K hK => ?_) AllReadyH.nil)
        refine step_append_r rfl _ _ 23 rfl (g + 1) 35 i0 _ 64 Tryz.underlying23 hi0 hz0 hz1 hz2 rfl (by decide) _ _ _ rfl h1.r2 _ ⟨s, 2, q2, q3, q4, q5, q1⟩ ⟨rfl, hsl, hkk, hq2, hq3, hq4, hqs, hq1⟩ (fun u hu => by (simp [eltV] at hu; rcases hu with rfl | rfl | rfl | rfl | rfl | rfl | rfl <;> rfl)) _ rfl (blk_cells (Blk.new _ _ _ _ rfl)) hl (by omega) (by simp; have := h.blk.lt; omega) ?_
        intro u wn hnew hold hf
        obtain ⟨A9, c9, rfl, _⟩ := hnew.reads2
        have hb2 : Below g w wn := hf.keeps (Nat.le_succ g) (Nat.le_of_lt h1.blk.lt) hb1
        refine hK.out _ _ ?_ (fun hHeld => ?_)
        · exact hb2
        clear hK K
        try simp only [Act.put, List.setIfInBounds_toArray, List.set_cons_zero, List.set_cons_succ]
        refine wpAnyH_take (i := 8) (oi := Go.Oper.mk (Option.some 48) (Go.Op.nilCheck (Go.Operand.tmp 40)) 0 "reader.go:110" #[Go.Edge.mk 0 Go.Ground.data, Go.Edge.mk 0 Go.Ground.phase, Go.Edge.mk 1 Go.Ground.phase, Go.Edge.mk 2 Go.Ground.phase, Go.Edge.mk 3 Go.Ground.phase, Go.Edge.mk 4 Go.Ground.phase, Go.Edge.mk 5 Go.Ground.phase, Go.Edge.mk 6 Go.Ground.phase, Go.Edge.mk 7 Go.Ground.phase] Option.none) (v := ?_) rfl (by kernel_rfl) (by kernel_rfl) (by kernel_rfl) (fun _ _ _ h => h) (Or.inl ⟨by rfl, ?_⟩) (by assumption) ?_
        rotate_left
        · intro W hSw; (try dsimp only at hSw); go_simp; (first | done | with_reducible rfl)
        try simp only [Act.put, List.setIfInBounds_toArray, List.set_cons_zero, List.set_cons_succ]
        refine wpAnyH_take (i := 9) (oi := Go.Oper.mk (Option.some 49) (Go.Op.fieldAddr 28 (Go.Operand.tmp 48) 2) 0 "reader.go:110" #[Go.Edge.mk 8 Go.Ground.data, Go.Edge.mk 0 Go.Ground.phase, Go.Edge.mk 1 Go.Ground.phase, Go.Edge.mk 2 Go.Ground.phase, Go.Edge.mk 3 Go.Ground.phase, Go.Edge.mk 4 Go.Ground.phase, Go.Edge.mk 5 Go.Ground.phase, Go.Edge.mk 6 Go.Ground.phase, Go.Edge.mk 7 Go.Ground.phase] Option.none) (v := ?_) rfl (by kernel_rfl) (by kernel_rfl) (by kernel_rfl) (fun _ _ _ h => h) (Or.inl ⟨by rfl, ?_⟩) (by assumption) ?_
        rotate_left
        · intro W hSw; (try dsimp only at hSw); go_simp; (first | done | with_reducible rfl)
        try simp only [Act.put, List.setIfInBounds_toArray, List.set_cons_zero, List.set_cons_succ]
        refine wpAnyH_ready (rs := [10]) (by kernel_rfl) (by simp) (AllReadyH.cons (o := Go.Oper.mk Option.none (Go.Op.store 23 (Go.Operand.tmp 49) (Go.Operand.tmp 47)) 0 "reader.go:110" #[Go.Edge.mk 9 Go.Ground.data, Go.Edge.mk 7 Go.Ground.data, Go.Edge.mk 7 Go.Ground.chain, Go.Edge.mk 0 Go.Ground.phase, Go.Edge.mk 1 Go.Ground.phase, Go.Edge.mk 2 Go.Ground.phase, Go.Edge.mk 3 Go.Ground.phase, Go.Edge.mk 4 Go.Ground.phase, Go.Edge.mk 5 Go.Ground.phase, Go.Edge.mk 6 Go.Ground.phase, Go.Edge.mk 7 Go.Ground.phase] Option.none) rfl (fun K hK => ?_) AllReadyH.nil)
        have hz := (h1.put2 hf hnew)
        rw [List.length_append, List.length_singleton] at hz
        have hcl := (hf.blk h1.blk (by decide)).cell 2
        have hfr := (hf.blk h1.blk (by decide)).free 2
        go_simp
        refine hK.out _ _ ?_ (fun hHeld => ?_)
        · exact hb2.setCell (p := ⟨g, 2, none⟩) (Nat.le_refl g) _
        clear hK K
        try simp only [Act.put, List.setIfInBounds_toArray, List.set_cons_zero, List.set_cons_succ]
        refine wpAnyH_done (by kernel_rfl) ?_ _
        go_wp2_with fail
        (try simp only [Exit.inBlock, Exit.then])
        refine bodyPost_end (results_none rfl _ _ _) rfl ?_
        refine ⟨rfl, ?_, hb2.setCell (p := ⟨g, 2, none⟩) (Nat.le_refl g) _⟩
        exact ⟨_, _, _, _, _, hz⟩
      · go_simp
        refine hK.out _ _ ?_ (fun hHeld => ?_)
        · exact hbz.drew
        clear hK K
        try simp only [Act.put, List.setIfInBounds_toArray, List.set_cons_zero, List.set_cons_succ]
        refine wpAnyH_ready (rs := [4, 6]) (by kernel_rfl) (by simp) (AllReadyH.cons (o := Go.Oper.mk (Option.some 44) (Go.Op.load 23 (Go.Operand.tmp 43)) 23 "reader.go:110" #[Go.Edge.mk 3 Go.Ground.data] Option.none) rfl (fun K hK => ?_) (AllReadyH.cons (o := Go.Oper.mk (Option.some 46) (Go.Op.buildSlice 23 1 #[(0, Go.Operand.tmp 45)]) 23 "reader.go:110" #[Go.Edge.mk 5 Go.Ground.data] Option.none) rfl (fun K hK => ?_) AllReadyH.nil))
        · go_simp
          refine hK.out _ _ ?_ (fun hHeld => ?_)
          · exact hbz.drew
          clear hK K
          try simp only [Act.put, List.setIfInBounds_toArray, List.set_cons_zero, List.set_cons_succ]
          refine wpAnyH_ready (rs := [6]) (by kernel_rfl) (by simp) (AllReadyH.cons (o := Go.Oper.mk (Option.some 46) (Go.Op.buildSlice 23 1 #[(0, Go.Operand.tmp 45)]) 23 "reader.go:110" #[Go.Edge.mk 5 Go.Ground.data] Option.none) rfl (fun K hK => ?_) AllReadyH.nil)
          go_simp
          refine hK.out _ _ ?_ (fun hHeld => ?_)
          · exact (hbz.drew.alloc (Nat.le_of_lt h.blk.lt) _)
          clear hK K
          try simp only [Act.put, List.setIfInBounds_toArray, List.set_cons_zero, List.set_cons_succ]
          have hb1 : Below g w _ := (hbz.drew.alloc (Nat.le_of_lt h.blk.lt) (.cells #[.string (bs s), .int .i64 2, .int .i64 q2, .int .i64 q3, .int .i64 q4, .int .i64 q5, .int .i64 q1] 35))
          have h1 := h.drew.alloc (.cells #[.string (bs s), .int .i64 2, .int .i64 q2, .int .i64 q3, .int .i64 q4, .int .i64 q5, .int .i64 q1] 35)
          refine wpAnyH_ready (rs := [7]) (by kernel_rfl) (by simp) (AllReadyH.cons (o := Go.Oper.mk (Option.some 47) (Go.Op.call (Go.Call.mk (Go.Callee.builtin Go.Builtin.append) #[Go.Operand.tmp 44, Go.Operand.tmp 46] #[23, 23])) 23 "reader.go:110" #[Go.Edge.mk 4 Go.Ground.data, Go.Edge.mk 6 Go.Ground.data] Option.none) rfl (fun K hK => ?_) AllReadyH.nil)
          refine step_append_r rfl _ _ 23 rfl (g + 1) 35 i0 _ 64 Tryz.underlying23 hi0 hz0 hz1 hz2 rfl (by decide) _ _ _ rfl h1.r2 _ ⟨s, 2, q2, q3, q4, q5, q1⟩ ⟨rfl, hsl, hkk, hq2, hq3, hq4, hqs, hq1⟩ (fun u hu => by (simp [eltV] at hu; rcases hu with rfl | rfl | rfl | rfl | rfl | rfl | rfl <;> rfl)) _ rfl (blk_cells (Blk.new _ _ _ _ rfl)) hl (by omega) (by simp; have := h.blk.lt; omega) ?_
          intro u wn hnew hold hf
          obtain ⟨A9, c9, rfl, _⟩ := hnew.reads2
          have hb2 : Below g w wn := hf.keeps (Nat.le_succ g) (Nat.le_of_lt h1.blk.lt) hb1
          refine hK.out _ _ ?_ (fun hHeld => ?_)
          · exact hb2
          clear hK K
          try simp only [Act.put, List.setIfInBounds_toArray, List.set_cons_zero, List.set_cons_succ]
          refine wpAnyH_take (i := 8) (oi := Go.Oper.mk (Option.some 48) (Go.Op.nilCheck (Go.Operand.tmp 40)) 0 "reader.go:110" #[Go.Edge.mk 0 Go.Ground.data, Go.Edge.mk 0 Go.Ground.phase, Go.Edge.mk 1 Go.Ground.phase, Go.Edge.mk 2 Go.Ground.phase, Go.Edge.mk 3 Go.Ground.phase, Go.Edge.mk 4 Go.Ground.phase, Go.Edge.mk 5 Go.Ground.phase, Go.Edge.mk 6 Go.Ground.phase, Go.Edge.mk 7 Go.Ground.phase] Option.none) (v := ?_) rfl (by kernel_rfl) (by kernel_rfl) (by kernel_rfl) (fun _ _ _ h => h) (Or.inl ⟨by rfl, ?_⟩) (by assumption) ?_
          rotate_left
          · intro W hSw; (try dsimp only at hSw); go_simp; (first | done | with_reducible rfl)
          try simp only [Act.put, List.setIfInBounds_toArray, List.set_cons_zero, List.set_cons_succ]
          refine wpAnyH_take (i := 9) (oi := Go.Oper.mk (Option.some 49) (Go.Op.fieldAddr 28 (Go.Operand.tmp 48) 2) 0 "reader.go:110" #[Go.Edge.mk 8 Go.Ground.data, Go.Edge.mk 0 Go.Ground.phase, Go.Edge.mk 1 Go.Ground.phase, Go.Edge.mk 2 Go.Ground.phase, Go.Edge.mk 3 Go.Ground.phase, Go.Edge.mk 4 Go.Ground.phase, Go.Edge.mk 5 Go.Ground.phase, Go.Edge.mk 6 Go.Ground.phase, Go.Edge.mk 7 Go.Ground.phase] Option.none) (v := ?_) rfl (by kernel_rfl) (by kernel_rfl) (by kernel_rfl) (fun _ _ _ h => h) (Or.inl ⟨by rfl, ?_⟩) (by assumption) ?_
          rotate_left
          · intro W hSw; (try dsimp only at hSw); go_simp; (first | done | with_reducible rfl)
          try simp only [Act.put, List.setIfInBounds_toArray, List.set_cons_zero, List.set_cons_succ]
          refine wpAnyH_ready (rs := [10]) (by kernel_rfl) (by simp) (AllReadyH.cons (o := Go.Oper.mk Option.none (Go.Op.store 23 (Go.Operand.tmp 49) (Go.Operand.tmp 47)) 0 "reader.go:110" #[Go.Edge.mk 9 Go.Ground.data, Go.Edge.mk 7 Go.Ground.data, Go.Edge.mk 7 Go.Ground.chain, Go.Edge.mk 0 Go.Ground.phase, Go.Edge.mk 1 Go.Ground.phase, Go.Edge.mk 2 Go.Ground.phase, Go.Edge.mk 3 Go.Ground.phase, Go.Edge.mk 4 Go.Ground.phase, Go.Edge.mk 5 Go.Ground.phase, Go.Edge.mk 6 Go.Ground.phase, Go.Edge.mk 7 Go.Ground.phase] Option.none) rfl (fun K hK => ?_) AllReadyH.nil)
          have hz := (h1.put2 hf hnew)
          rw [List.length_append, List.length_singleton] at hz
          have hcl := (hf.blk h1.blk (by decide)).cell 2
          have hfr := (hf.blk h1.blk (by decide)).free 2
          go_simp
          refine hK.out _ _ ?_ (fun hHeld => ?_)
          · exact hb2.setCell (p := ⟨g, 2, none⟩) (Nat.le_refl g) _
          clear hK K
          try simp only [Act.put, List.setIfInBounds_toArray, List.set_cons_zero, List.set_cons_succ]
          refine wpAnyH_done (by kernel_rfl) ?_ _
          go_wp2_with fail
          (try simp only [Exit.inBlock, Exit.then])
          refine bodyPost_end (results_none rfl _ _ _) rfl ?_
          refine ⟨rfl, ?_, hb2.setCell (p := ⟨g, 2, none⟩) (Nat.le_refl g) _⟩
          exact ⟨_, _, _, _, _, hz⟩
        · go_simp
          refine hK.out _ _ ?_ (fun hHeld => ?_)
          · exact (hbz.drew.alloc (Nat.le_of_lt h.blk.lt) _)
          clear hK K
          try simp only [Act.put, List.setIfInBounds_toArray, List.set_cons_zero, List.set_cons_succ]
          have hb1 : Below g w _ := (hbz.drew.alloc (Nat.le_of_lt h.blk.lt) (.cells #[.string (bs s), .int .i64 2, .int .i64 q2, .int .i64 q3, .int .i64 q4, .int .i64 q5, .int .i64 q1] 35))
          have h1 := h.drew.alloc (.cells #[.string (bs s), .int .i64 2, .int .i64 q2, .int .i64 q3, .int .i64 q4, .int .i64 q5, .int .i64 q1] 35)
          have x2' : (wz.alloc (.cells #[.string (bs s), .int .i64 2, .int .i64 q2, .int .i64 q3, .int .i64 q4, .int .i64 q5, .int .i64 q1] 35)).cell? ⟨g, 2, none⟩ = some v2 := (h.alloc _).x2
          refine wpAnyH_ready (rs := [4]) (by kernel_rfl) (by simp) (AllReadyH.cons (o := Go.Oper.mk (Option.some 44) (Go.Op.load 23 (Go.Operand.tmp 43)) 23 "reader.go:110" #[Go.Edge.mk 3 Go.Ground.data] Option.none) rfl (fun K hK => ?_) AllReadyH.nil)
          go_simp
          refine hK.out _ _ ?_ (fun hHeld => ?_)
          · exact hb1
          clear hK K
          try simp only [Act.put, List.setIfInBounds_toArray, List.set_cons_zero, List.set_cons_succ]
          refine wpAnyH_ready (rs := [7]) (by kernel_rfl) (by simp) (AllReadyH.cons (o := Go.Oper.mk (Option.some 47) (Go.Op.call (Go.Call.mk (Go.Callee.builtin Go.Builtin.append) #[Go.Operand.tmp 44, Go.Operand.tmp 46] #[23, 23])) 23 "reader.go:110" #[Go.Edge.mk 4 Go.Ground.data, Go.Edge.mk 6 Go.Ground.data] Option.none) rfl (fun K hK => ?_) AllReadyH.nil)
          refine step_append_r rfl _ _ 23 rfl (g + 1) 35 i0 _ 64 Tryz.underlying23 hi0 hz0 hz1 hz2 rfl (by decide) _ _ _ rfl h1.r2 _ ⟨s, 2, q2, q3, q4, q5, q1⟩ ⟨rfl, hsl, hkk, hq2, hq3, hq4, hqs, hq1⟩ (fun u hu => by (simp [eltV] at hu; rcases hu with rfl | rfl | rfl | rfl | rfl | rfl | rfl <;> rfl)) _ rfl (blk_cells (Blk.new _ _ _ _ rfl)) hl (by omega) (by simp; have := h.blk.lt; omega) ?_
          intro u wn hnew hold hf
          obtain ⟨A9, c9, rfl, _⟩ := hnew.reads2
          have hb2 : Below g w wn := hf.keeps (Nat.le_succ g) (Nat.le_of_lt h1.blk.lt) hb1
          refine hK.out _ _ ?_ (fun hHeld => ?_)
          · exact hb2
          clear hK K
          try simp only [Act.put, List.setIfInBounds_toArray, List.set_cons_zero, List.set_cons_succ]
          refine wpAnyH_take (i := 8) (oi := Go.Oper.mk (Option.some 48) (Go.Op.nilCheck (Go.Operand.tmp 40)) 0 "reader.go:110" #[Go.Edge.mk 0 Go.Ground.data, Go.Edge.mk 0 Go.Ground.phase, Go.Edge.mk 1 Go.Ground.phase, Go.Edge.mk 2 Go.Ground.phase, Go.Edge.mk 3 Go.Ground.phase, Go.Edge.mk 4 Go.Ground.phase, Go.Edge.mk 5 Go.Ground.phase, Go.Edge.mk 6 Go.Ground.phase, Go.Edge.mk 7 Go.Ground.phase] Option.none) (v := ?_) rfl (by kernel_rfl) (by kernel_rfl) (by kernel_rfl) (fun _ _ _ h => h) (Or.inl ⟨by rfl, ?_⟩) (by assumption) ?_
          rotate_left
          · intro W hSw; (try dsimp only at hSw); go_simp; (first | done | with_reducible rfl)
          try simp only [Act.put, List.setIfInBounds_toArray, List.set_cons_zero, List.set_cons_succ]
          refine wpAnyH_take (i := 9) (oi := Go.Oper.mk (Option.some 49) (Go.Op.fieldAddr 28 (Go.Operand.tmp 48) 2) 0 "reader.go:110" #[Go.Edge.mk 8 Go.Ground.data, Go.Edge.mk 0 Go.Ground.phase, Go.Edge.mk 1 Go.Ground.phase, Go.Edge.mk 2 Go.Ground.phase, Go.Edge.mk 3 Go.Ground.phase, Go.Edge.mk 4 Go.Ground.phase, Go.Edge.mk 5 Go.Ground.phase, Go.Edge.mk 6 Go.Ground.phase, Go.Edge.mk 7 Go.Ground.phase] Option.none) (v := ?_) rfl (by kernel_rfl) (by kernel_rfl) (by kernel_rfl) (fun _ _ _ h => h) (Or.inl ⟨by rfl, ?_⟩) (by assumption) ?_
          rotate_left
          · intro W hSw; (try dsimp only at hSw); go_simp; (first | done | with_reducible rfl)
          try simp only [Act.put, List.setIfInBounds_toArray, List.set_cons_zero, List.set_cons_succ]
          refine wpAnyH_ready (rs := [10]) (by kernel_rfl) (by simp) (AllReadyH.cons (o := Go.Oper.mk Option.none (Go.Op.store 23 (Go.Operand.tmp 49) (Go.Operand.tmp 47)) 0 "reader.go:110" #[Go.Edge.mk 9 Go.Ground.data, Go.Edge.mk 7 Go.Ground.data, Go.Edge.mk 7 Go.Ground.chain, Go.Edge.mk 0 Go.Ground.phase, Go.Edge.mk 1 Go.Ground.phase, Go.Edge.mk 2 Go.Ground.phase, Go.Edge.mk 3 Go.Ground.phase, Go.Edge.mk 4 Go.Ground.phase, Go.Edge.mk 5 Go.Ground.phase, Go.Edge.mk 6 Go.Ground.phase, Go.Edge.mk 7 Go.Ground.phase] Option.none) rfl (fun K hK => ?_) AllReadyH.nil)
          have hz := (h1.put2 hf hnew)
          rw [List.length_append, List.length_singleton] at hz
          have hcl := (hf.blk h1.blk (by decide)).cell 2
          have hfr := (hf.blk h1.blk (by decide)).free 2
          go_simp
          refine hK.out _ _ ?_ (fun hHeld => ?_)
          · exact hb2.setCell (p := ⟨g, 2, none⟩) (Nat.le_refl g) _
          clear hK K
          try simp only [Act.put, List.setIfInBounds_toArray, List.set_cons_zero, List.set_cons_succ]
          refine wpAnyH_done (by kernel_rfl) ?_ _
          go_wp2_with fail
          (try simp only [Exit.inBlock, Exit.then])
          refine bodyPost_end (results_none rfl _ _ _) rfl ?_
          refine ⟨rfl, ?_, hb2.setCell (p := ⟨g, 2, none⟩) (Nat.le_refl g) _⟩
          exact ⟨_, _, _, _, _, hz⟩
    · have hqs : I64n 0 := by unfold I64n; omega
      have HK2 := Lib.hid hk2
      have hkb : (kd == 2) = false := by simp [hk2]
      clear HZ5 HM5 HQ5 HZ1 HZ2 HZ3 HZ4 HLK HY hk2
      go_wp2_with fail
      have hEz := HE.out
      have hbz := hbx
      generalize wc = wz at h hEz hbz ⊢
      obtain ⟨i0, hi0, hz0, hz1, hz2⟩ := info_parts infoE
      have x2 := h.x2
      have e0 : wz.cell? ⟨g9, 0, none⟩ = some (.string (bs s)) := hEz.2.1.cell 0
      have e1 : wz.cell? ⟨g9, 1, none⟩ = some (.int .i64 kd) := hEz.2.1.cell 1
      have e2 : wz.cell? ⟨g9, 2, none⟩ = some (.int .i64 q2) := hEz.2.1.cell 2
      have e3 : wz.cell? ⟨g9, 3, none⟩ = some (.int .i64 q3) := hEz.2.1.cell 3
      have e4 : wz.cell? ⟨g9, 4, none⟩ = some (.int .i64 q4) := hEz.2.1.cell 4
      have e5 : wz.cell? ⟨g9, 5, none⟩ = some (.int .i64 0) := hEz.2.1.cell 5
      have e6 : wz.cell? ⟨g9, 6, none⟩ = some (.int .i64 q1) := hEz.2.1.cell 6
      refine wp_region_held_drew (S := (fun w' => Below g w w')) (by kernel_rfl) (hbz.drew) (fun hHeld => ?_)
      refine wpAnyH_take (i := 0) (oi := Go.Oper.mk (Option.some 40) (Go.Op.move (Go.Operand.tmp 8)) 114 "reader.go:110" #[] Option.none) (v := ?_) rfl (by kernel_rfl) (by kernel_rfl) (by kernel_rfl) (fun _ _ _ h => h) (Or.inl ⟨by rfl, ?_⟩) (by assumption) ?_
      rotate_left
      · intro W hSw; (try dsimp only at hSw); go_simp; (first | done | with_reducible rfl)
      try simp only [Act.put, List.setIfInBounds_toArray, List.set_cons_zero, List.set_cons_succ]
      refine wpAnyH_take (i := 1) (oi := Go.Oper.mk (Option.some 41) (Go.Op.move (Go.Operand.tmp 8)) 114 "reader.go:110" #[] Option.none) (v := ?_) rfl (by kernel_rfl) (by kernel_rfl) (by kernel_rfl) (fun _ _ _ h => h) (Or.inl ⟨by rfl, ?_⟩) (by assumption) ?_
      rotate_left
      · intro W hSw; (try dsimp only at hSw); go_simp; (first | done | with_reducible rfl)
      try simp only [Act.put, List.setIfInBounds_toArray, List.set_cons_zero, List.set_cons_succ]
      refine wpAnyH_take (i := 2) (oi := Go.Oper.mk (Option.some 42) (Go.Op.nilCheck (Go.Operand.tmp 41)) 0 "reader.go:110" #[Go.Edge.mk 1 Go.Ground.data] Option.none) (v := ?_) rfl (by kernel_rfl) (by kernel_rfl) (by kernel_rfl) (fun _ _ _ h => h) (Or.inl ⟨by rfl, ?_⟩) (by assumption) ?_
      rotate_left
      · intro W hSw; (try dsimp only at hSw); go_simp; (first | done | with_reducible rfl)
      try simp only [Act.put, List.setIfInBounds_toArray, List.set_cons_zero, List.set_cons_succ]
      refine wpAnyH_take (i := 3) (oi := Go.Oper.mk (Option.some 43) (Go.Op.fieldAddr 28 (Go.Operand.tmp 42) 2) 0 "reader.go:110" #[Go.Edge.mk 2 Go.Ground.data] Option.none) (v := ?_) rfl (by kernel_rfl) (by kernel_rfl) (by kernel_rfl) (fun _ _ _ h => h) (Or.inl ⟨by rfl, ?_⟩) (by assumption) ?_
      rotate_left
      · intro W hSw; (try dsimp only at hSw); go_simp; (first | done | with_reducible rfl)
      try simp only [Act.put, List.setIfInBounds_toArray, List.set_cons_zero, List.set_cons_succ]
      refine wpAnyH_ready (rs := [4, 5]) (by kernel_rfl) (by simp) (AllReadyH.cons (o := Go.Oper.mk (Option.some 44) (Go.Op.load 23 (Go.Operand.tmp 43)) 23 "reader.go:110" #[Go.Edge.mk 3 Go.Ground.data] Option.none) rfl (fun K hK => ?_) (AllReadyH.cons (o := Go.Oper.mk (Option.some 45) (Go.Op.load 35 (Go.Operand.tmp 9)) 35 "reader.go:110" #[] Option.none) rfl (fun K hK => ?_) AllReadyH.nil))
      · go_simp
        refine hK.out _ _ ?_ (fun hHeld => ?_)
        · exact hbz.drew
        clear hK K
        try simp only [Act.put, List.setIfInBounds_toArray, List.set_cons_zero, List.set_cons_succ]
        refine wpAnyH_ready (rs := [5]) (by kernel_rfl) (by simp) (AllReadyH.cons (o := Go.Oper.mk (Option.some 45) (Go.Op.load 35 (Go.Operand.tmp 9)) 35 "reader.go:110" #[] Option.none) rfl (fun K hK => ?_) AllReadyH.nil)
        go_simp
        refine hK.out _ _ ?_ (fun hHeld => ?_)
        · exact hbz.drew
        clear hK K
        try simp only [Act.put, List.setIfInBounds_toArray, List.set_cons_zero, List.set_cons_succ]
        refine wpAnyH_ready (rs := [6]) (by kernel_rfl) (by simp) (AllReadyH.cons (o := Go.Oper.mk (Option.some 46) (Go.Op.buildSlice 23 1 #[(0, Go.Operand.tmp 45)]) 23 "reader.go:110" #[Go.Edge.mk 5 Go.Ground.data] Option.none) rfl (fun K hK => ?_) AllReadyH.nil)
        go_simp
        refine hK.out _ _ ?_ (fun hHeld => ?_)
        · exact (hbz.drew.alloc (Nat.le_of_lt h.blk.lt) _)
        clear hK K
        try simp only [Act.put, List.setIfInBounds_toArray, List.set_cons_zero, List.set_cons_succ]
        have hb1 : Below g w _ := (hbz.drew.alloc (Nat.le_of_lt h.blk.lt) (.cells #[.string (bs s), .int .i64 kd, .int .i64 q2, .int .i64 q3, .int .i64 q4, .int .i64 0, .int .i64 q1] 35))
        have h1 := h.drew.alloc (.cells #[.string (bs s), .int .i64 kd, .int .i64 q2, .int .i64 q3, .int .i64 q4, .int .i64 0, .int .i64 q1] 35)
        refine wpAnyH_ready (rs := [7]) (by kernel_rfl) (by simp) (AllReadyH.cons (o := Go.Oper.mk (Option.some 47) (Go.Op.call (Go.Call.mk (Go.Callee.builtin Go.Builtin.append) #[Go.Operand.tmp 44, Go.Operand.tmp 46] #[23, 23])) 23 "reader.go:110" #[Go.Edge.mk 4 Go.Ground.data, Go.Edge.mk 6 Go.Ground.data] Option.none) rfl (fun K hK => ?_) AllReadyH.nil)
        refine step_append_r rfl _ _ 23 rfl (g + 1) 35 i0 _ 64 Tryz.underlying23 hi0 hz0 hz1 hz2 rfl (by decide) _ _ _ rfl h1.r2 _ ⟨s, kd, q2, q3, q4, 0, q1⟩ ⟨rfl, hsl, hkk, hq2, hq3, hq4, hqs, hq1⟩ (fun u hu => by (simp [eltV] at hu; rcases hu with rfl | rfl | rfl | rfl | rfl | rfl | rfl <;> rfl)) _ rfl (blk_cells (Blk.new _ _ _ _ rfl)) hl (by omega) (by simp; have := h.blk.lt; omega) ?_
        intro u wn hnew hold hf
        obtain ⟨A9, c9, rfl, _⟩ := hnew.reads2
        have hb2 : Below g w wn := hf.keeps (Nat.le_succ g) (Nat.le_of_lt h1.blk.lt) hb1
        refine hK.out _ _ ?_ (fun hHeld => ?_)
        · exact hb2
        clear hK K
        try simp only [Act.put, List.setIfInBounds_toArray, List.set_cons_zero, List.set_cons_succ]
        refine wpAnyH_take (i := 8) (oi := Go.Oper.mk (Option.some 48) (Go.Op.nilCheck (Go.Operand.tmp 40)) 0 "reader.go:110" #[Go.Edge.mk 0 Go.Ground.data, Go.Edge.mk 0 Go.Ground.phase, Go.Edge.mk 1 Go.Ground.phase, Go.Edge.mk 2 Go.Ground.phase, Go.Edge.mk 3 Go.Ground.phase, Go.Edge.mk 4 Go.Ground.phase, Go.Edge.mk 5 Go.Ground.phase, Go.Edge.mk 6 Go.Ground.phase, Go.Edge.mk 7 Go.Ground.phase] Option.none) (v := ?_) rfl (by kernel_rfl) (by kernel_rfl) (by kernel_rfl) (fun _ _ _ h => h) (Or.inl ⟨by rfl, ?_⟩) (by assumption) ?_
        rotate_left
        · intro W hSw; (try dsimp only at hSw); go_simp; (first | done | with_reducible rfl)
        try simp only [Act.put, List.setIfInBounds_toArray, List.set_cons_zero, List.set_cons_succ]
        refine wpAnyH_take (i := 9) (oi := Go.Oper.mk (Option.some 49) (Go.Op.fieldAddr 28 (Go.Operand.tmp 48) 2) 0 "reader.go:110" #[Go.Edge.mk 8 Go.Ground.data, Go.Edge.mk 0 Go.Ground.phase, Go.Edge.mk 1 Go.Ground.phase, Go.Edge.mk 2 Go.Ground.phase, Go.Edge.mk 3 Go.Ground.phase, Go.Edge.mk 4 Go.Ground.phase, Go.Edge.mk 5 Go.Ground.phase, Go.Edge.mk 6 Go.Ground.phase, Go.Edge.mk 7 Go.Ground.phase] Option.none) (v := ?_) rfl (by kernel_rfl) (by kernel_rfl) (by kernel_rfl) (fun _ _ _ h => h) (Or.inl ⟨by rfl, ?_⟩) (by assumption) ?_
        rotate_left
        · intro W hSw; (try dsimp only at hSw); go_simp; (first | done | with_reducible rfl)
        try simp only [Act.put, List.setIfInBounds_toArray, List.set_cons_zero, List.set_cons_succ]
        refine wpAnyH_ready (rs := [10]) (by kernel_rfl) (by simp) (AllReadyH.cons (o := Go.Oper.mk Option.none (Go.Op.store 23 (Go.Operand.tmp 49) (Go.Operand.tmp 47)) 0 "reader.go:110" #[Go.Edge.mk 9 Go.Ground.data, Go.Edge.mk 7 Go.Ground.data, Go.Edge.mk 7 Go.Ground.chain, Go.Edge.mk 0 Go.Ground.phase, Go.Edge.mk 1 Go.Ground.phase, Go.Edge.mk 2 Go.Ground.phase, Go.Edge.mk 3 Go.Ground.phase, Go.Edge.mk 4 Go.Ground.phase, Go.Edge.mk 5 Go.Ground.phase, Go.Edge.mk 6 Go.Ground.phase, Go.Edge.mk 7 Go.Ground.phase] Option.none) rfl (fun K hK => ?_) AllReadyH.nil)
        have hz := (h1.put2 hf hnew)
        rw [List.length_append, List.length_singleton] at hz
        have hcl := (hf.blk h1.blk (by decide)).cell 2
        have hfr := (hf.blk h1.blk (by decide)).free 2
        go_simp
        refine hK.out _ _ ?_ (fun hHeld => ?_)
        · exact hb2.setCell (p := ⟨g, 2, none⟩) (Nat.le_refl g) _
        clear hK K
        try simp only [Act.put, List.setIfInBounds_toArray, List.set_cons_zero, List.set_cons_succ]
        refine wpAnyH_done (by kernel_rfl) ?_ _
        go_wp2_with fail
        (try simp only [Exit.inBlock, Exit.then])
        refine bodyPost_end (results_none rfl _ _ _) rfl ?_
        refine ⟨rfl, ?_, hb2.setCell (p := ⟨g, 2, none⟩) (Nat.le_refl g) _⟩
        exact ⟨_, _, _, _, _, hz⟩
      · go_simp
        refine hK.out _ _ ?_ (fun hHeld => ?_)
        · exact hbz.drew
        clear hK K
        try simp only [Act.put, List.setIfInBounds_toArray, List.set_cons_zero, List.set_cons_succ]
        refine wpAnyH_ready (rs := [4, 6]) (by kernel_rfl) (by simp) (AllReadyH.cons (o := Go.Oper.mk (Option.some 44) (Go.Op.load 23 (Go.Operand.tmp 43)) 23 "reader.go:110" #[Go.Edge.mk 3 Go.Ground.data] Option.none) rfl (fun K hK => ?_) (AllReadyH.cons (o := Go.Oper.mk (Option.some 46) (Go.Op.buildSlice 23 1 #[(0, Go.Operand.tmp 45)]) 23 "reader.go:110" #[Go.Edge.mk 5 Go.Ground.data] Option.none) rfl (fun K hK => ?_) AllReadyH.nil))
        · go_simp
          refine hK.out _ _ ?_ (fun hHeld => ?_)
          · exact hbz.drew
          clear hK K
          try simp only [Act.put, List.setIfInBounds_toArray, List.set_cons_zero, List.set_cons_succ]
          refine wpAnyH_ready (rs := [6]) (by kernel_rfl) (by simp) (AllReadyH.cons (o := Go.Oper.mk (Option.some 46) (Go.Op.buildSlice 23 1 #[(0, Go.Operand.tmp 45)]) 23 "reader.go:110" #[Go.Edge.mk 5 Go.Ground.data] Option.none) rfl (fun K hK => ?_) AllReadyH.nil)
          go_simp
          refine hK.out _ _ ?_ (fun hHeld => ?_)
          · exact (hbz.drew.alloc (Nat.le_of_lt h.blk.lt) _)
          clear hK K
          try simp only [Act.put, List.setIfInBounds_toArray, List.set_cons_zero, List.set_cons_succ]
          have hb1 : Below g w _ := (hbz.drew.alloc (Nat.le_of_lt h.blk.lt) (.cells #[.string (bs s), .int .i64 kd, .int .i64 q2, .int .i64 q3, .int .i64 q4, .int .i64 0, .int .i64 q1] 35))
          have h1 := h.drew.alloc (.cells #[.string (bs s), .int .i64 kd, .int .i64 q2, .int .i64 q3, .int .i64 q4, .int .i64 0, .int .i64 q1] 35)
          refine wpAnyH_ready (rs := [7]) (by kernel_rfl) (by simp) (AllReadyH.cons (o := Go.Oper.mk (Option.some 47) (Go.Op.call (Go.Call.mk (Go.Callee.builtin Go.Builtin.append) #[Go.Operand.tmp 44, Go.Operand.tmp 46] #[23, 23])) 23 "reader.go:110" #[Go.Edge.mk 4 Go.Ground.data, Go.Edge.mk 6 Go.Ground.data] Option.none) rfl (fun K hK => ?_) AllReadyH.nil)
          refine step_append_r rfl _ _ 23 rfl (g + 1) 35 i0 _ 64 Tryz.underlying23 hi0 hz0 hz1 hz2 rfl (by decide) _ _ _ rfl h1.r2 _ ⟨s, kd, q2, q3, q4, 0, q1⟩ ⟨rfl, hsl, hkk, hq2, hq3, hq4, hqs, hq1⟩ (fun u hu => by (simp [eltV] at hu; rcases hu with rfl | rfl | rfl | rfl | rfl | rfl | rfl <;> rfl)) _ rfl (blk_cells (Blk.new _ _ _ _ rfl)) hl (by omega) (by simp; have := h.blk.lt; omega) ?_
          intro u wn hnew hold hf
          obtain ⟨A9, c9, rfl, _⟩ := hnew.reads2
          have hb2 : Below g w wn := hf.keeps (Nat.le_succ g) (Nat.le_of_lt h1.blk.lt) hb1
          refine hK.out _ _ ?_ (fun hHeld => ?_)
          · exact hb2
          clear hK K
          try simp only [Act.put, List.setIfInBounds_toArray, List.set_cons_zero, List.set_cons_succ]
          refine wpAnyH_take (i := 8) (oi := Go.Oper.mk (Option.some 48) (Go.Op.nilCheck (Go.Operand.tmp 40)) 0 "reader.go:110" #[Go.Edge.mk 0 Go.Ground.data, Go.Edge.mk 0 Go.Ground.phase, Go.Edge.mk 1 Go.Ground.phase, Go.Edge.mk 2 Go.Ground.phase, Go.Edge.mk 3 Go.Ground.phase, Go.Edge.mk 4 Go.Ground.phase, Go.Edge.mk 5 Go.Ground.phase, Go.Edge.mk 6 Go.Ground.phase, Go.Edge.mk 7 Go.Ground.phase] Option.none) (v := ?_) rfl (by kernel_rfl) (by kernel_rfl) (by kernel_rfl) (fun _ _ _ h => h) (Or.inl ⟨by rfl, ?_⟩) (by assumption) ?_
          rotate_left
          · intro W hSw; (try dsimp only at hSw); go_simp; (first | done | with_reducible rfl)
          try simp only [Act.put, List.setIfInBounds_toArray, List.set_cons_zero, List.set_cons_succ]
          refine wpAnyH_take (i := 9) (oi := Go.Oper.mk (Option.some 49) (Go.Op.fieldAddr 28 (Go.Operand.tmp 48) 2) 0 "reader.go:110" #[Go.Edge.mk 8 Go.Ground.data, Go.Edge.mk 0 Go.Ground.phase, Go.Edge.mk 1 Go.Ground.phase, Go.Edge.mk 2 Go.Ground.phase, Go.Edge.mk 3 Go.Ground.phase, Go.Edge.mk 4 Go.Ground.phase, Go.Edge.mk 5 Go.Ground.phase, Go.Edge.mk 6 Go.Ground.phase, Go.Edge.mk 7 Go.Ground.phase] Option.none) (v := ?_) rfl (by kernel_rfl) (by kernel_rfl) (by kernel_rfl) (fun _ _ _ h => h) (Or.inl ⟨by rfl, ?_⟩) (by assumption) ?_
          rotate_left
          · intro W hSw; (try dsimp only at hSw); go_simp; (first | done | with_reducible rfl)
          try simp only [Act.put, List.setIfInBounds_toArray, List.set_cons_zero, List.set_cons_succ]
          refine wpAnyH_ready (rs := [10]) (by kernel_rfl) (by simp) (AllReadyH.cons (o := Go.Oper.mk Option.none (Go.Op.store 23 (Go.Operand.tmp 49) (Go.Operand.tmp 47)) 0 "reader.go:110" #[Go.Edge.mk 9 Go.Ground.data, Go.Edge.mk 7 Go.Ground.data, Go.Edge.mk 7 Go.Ground.chain, Go.Edge.mk 0 Go.Ground.phase, Go.Edge.mk 1 Go.Ground.phase, Go.Edge.mk 2 Go.Ground.phase, Go.Edge.mk 3 Go.Ground.phase, Go.Edge.mk 4 Go.Ground.phase, Go.Edge.mk 5 Go.Ground.phase, Go.Edge.mk 6 Go.Ground.phase, Go.Edge.mk 7 Go.Ground.phase] Option.none) rfl (fun K hK => ?_) AllReadyH.nil)
          have hz := (h1.put2 hf hnew)
          rw [List.length_append, List.length_singleton] at hz
          have hcl := (hf.blk h1.blk (by decide)).cell 2
          have hfr := (hf.blk h1.blk (by decide)).free 2
          go_simp
          refine hK.out _ _ ?_ (fun hHeld => ?_)
          · exact hb2.setCell (p := ⟨g, 2, none⟩) (Nat.le_refl g) _
          clear hK K
          try simp only [Act.put, List.setIfInBounds_toArray, List.set_cons_zero, List.set_cons_succ]
          refine wpAnyH_done (by kernel_rfl) ?_ _
          go_wp2_with fail
          (try simp only [Exit.inBlock, Exit.then])
          refine bodyPost_end (results_none rfl _ _ _) rfl ?_
          refine ⟨rfl, ?_, hb2.setCell (p := ⟨g, 2, none⟩) (Nat.le_refl g) _⟩
          exact ⟨_, _, _, _, _, hz⟩
        · go_simp
          refine hK.out _ _ ?_ (fun hHeld => ?_)
          · exact (hbz.drew.alloc (Nat.le_of_lt h.blk.lt) _)
          clear hK K
          try simp only [Act.put, List.setIfInBounds_toArray, List.set_cons_zero, List.set_cons_succ]
          have hb1 : Below g w _ := (hbz.drew.alloc (Nat.le_of_lt h.blk.lt) (.cells #[.string (bs s), .int .i64 kd, .int .i64 q2, .int .i64 q3, .int .i64 q4, .int .i64 0, .int .i64 q1] 35))
          have h1 := h.drew.alloc (.cells #[.string (bs s), .int .i64 kd, .int .i64 q2, .int .i64 q3, .int .i64 q4, .int .i64 0, .int .i64 q1] 35)
          have x2' : (wz.alloc (.cells #[.string (bs s), .int .i64 kd, .int .i64 q2, .int .i64 q3, .int .i64 q4, .int .i64 0, .int .i64 q1] 35)).cell? ⟨g, 2, none⟩ = some v2 := (h.alloc _).x2
          refine wpAnyH_ready (rs := [4]) (by kernel_rfl) (by simp) (AllReadyH.cons (o := Go.Oper.mk (Option.some 44) (Go.Op.load 23 (Go.Operand.tmp 43)) 23 "reader.go:110" #[Go.Edge.mk 3 Go.Ground.data] Option.none) rfl (fun K hK => ?_) AllReadyH.nil)
          go_simp
          refine hK.out _ _ ?_ (fun hHeld => ?_)
          · exact hb1
          clear hK K
          try simp only [Act.put, List.setIfInBounds_toArray, List.set_cons_zero, List.set_cons_succ]
          refine wpAnyH_ready (rs := [7]) (by kernel_rfl) (by simp) (AllReadyH.cons (o := Go.Oper.mk (Option.some 47) (Go.Op.call (Go.Call.mk (Go.Callee.builtin Go.Builtin.append) #[Go.Operand.tmp 44, Go.Operand.tmp 46] #[23, 23])) 23 "reader.go:110" #[Go.Edge.mk 4 Go.Ground.data, Go.Edge.mk 6 Go.Ground.data] Option.none) rfl (fun K hK => ?_) AllReadyH.nil)
          refine step_append_r rfl _ _ 23 rfl (g + 1) 35 i0 _ 64 Tryz.underlying23 hi0 hz0 hz1 hz2 rfl (by decide) _ _ _ rfl h1.r2 _ ⟨s, kd, q2, q3, q4, 0, q1⟩ ⟨rfl, hsl, hkk, hq2, hq3, hq4, hqs, hq1⟩ (fun u hu => by (simp [eltV] at hu; rcases hu with rfl | rfl | rfl | rfl | rfl | rfl | rfl <;> rfl)) _ rfl (blk_cells (Blk.new _ _ _ _ rfl)) hl (by omega) (by simp; have := h.blk.lt; omega) ?_
          intro u wn hnew hold hf
          obtain ⟨A9, c9, rfl, _⟩ := hnew.reads2
          have hb2 : Below g w wn := hf.keeps (Nat.le_succ g) (Nat.le_of_lt h1.blk.lt) hb1
          refine hK.out _ _ ?_ (fun hHeld => ?_)
          · exact hb2
          clear hK K
          try simp only [Act.put, List.setIfInBounds_toArray, List.set_cons_zero, List.set_cons_succ]
          refine wpAnyH_take (i := 8) (oi := Go.Oper.mk (Option.some 48) (Go.Op.nilCheck (Go.Operand.tmp 40)) 0 "reader.go:110" #[Go.Edge.mk 0 Go.Ground.data, Go.Edge.mk 0 Go.Ground.phase, Go.Edge.mk 1 Go.Ground.phase, Go.Edge.mk 2 Go.Ground.phase, Go.Edge.mk 3 Go.Ground.phase, Go.Edge.mk 4 Go.Ground.phase, Go.Edge.mk 5 Go.Ground.phase, Go.Edge.mk 6 Go.Ground.phase, Go.Edge.mk 7 Go.Ground.phase] Option.none) (v := ?_) rfl (by kernel_rfl) (by kernel_rfl) (by kernel_rfl) (fun _ _ _ h => h) (Or.inl ⟨by rfl, ?_⟩) (by assumption) ?_
          rotate_left
          · intro W hSw; (try dsimp only at hSw); go_simp; (first | done | with_reducible rfl)
          try simp only [Act.put, List.setIfInBounds_toArray, List.set_cons_zero, List.set_cons_succ]
          refine wpAnyH_take (i := 9) (oi := Go.Oper.mk (Option.some 49) (Go.Op.fieldAddr 28 (Go.Operand.tmp 48) 2) 0 "reader.go:110" #[Go.Edge.mk 8 Go.Ground.data, Go.Edge.mk 0 Go.Ground.phase, Go.Edge.mk 1 Go.Ground.phase, Go.Edge.mk 2 Go.Ground.phase, Go.Edge.mk 3 Go.Ground.phase, Go.Edge.mk 4 Go.Ground.phase, Go.Edge.mk 5 Go.Ground.phase, Go.Edge.mk 6 Go.Ground.phase, Go.Edge.mk 7 Go.Ground.phase] Option.none) (v := ?_) rfl (by kernel_rfl) (by kernel_rfl) (by kernel_rfl) (fun _ _ _ h => h) (Or.inl ⟨by rfl, ?_⟩) (by assumption) ?_
          rotate_left
          · intro W hSw; (try dsimp only at hSw); go_simp; (first | done | with_reducible rfl)
          try simp only [Act.put, List.setIfInBounds_toArray, List.set_cons_zero, List.set_cons_succ]
          refine wpAnyH_ready (rs := [10]) (by kernel_rfl) (by simp) (AllReadyH.cons (o := Go.Oper.mk Option.none (Go.Op.store 23 (Go.Operand.tmp 49) (Go.Operand.tmp 47)) 0 "reader.go:110" #[Go.Edge.mk 9 Go.Ground.data, Go.Edge.mk 7 Go.Ground.data, Go.Edge.mk 7 Go.Ground.chain, Go.Edge.mk 0 Go.Ground.phase, Go.Edge.mk 1 Go.Ground.phase, Go.Edge.mk 2 Go.Ground.phase, Go.Edge.mk 3 Go.Ground.phase, Go.Edge.mk 4 Go.Ground.phase, Go.Edge.mk 5 Go.Ground.phase, Go.Edge.mk 6 Go.Ground.phase, Go.Edge.mk 7 Go.Ground.phase] Option.none) rfl (fun K hK => ?_) AllReadyH.nil)
          have hz := (h1.put2 hf hnew)
          rw [List.length_append, List.length_singleton] at hz
          have hcl := (hf.blk h1.blk (by decide)).cell 2
          have hfr := (hf.blk h1.blk (by decide)).free 2
          go_simp
          refine hK.out _ _ ?_ (fun hHeld => ?_)
          · exact hb2.setCell (p := ⟨g, 2, none⟩) (Nat.le_refl g) _
          clear hK K
          try simp only [Act.put, List.setIfInBounds_toArray, List.set_cons_zero, List.set_cons_succ]
          refine wpAnyH_done (by kernel_rfl) ?_ _
          go_wp2_with fail
          (try simp only [Exit.inBlock, Exit.then])
          refine bodyPost_end (results_none rfl _ _ _) rfl ?_
          refine ⟨rfl, ?_, hb2.setCell (p := ⟨g, 2, none⟩) (Nat.le_refl g) _⟩
          exact ⟨_, _, _, _, _, hz⟩
end Go.Proofs.YtopoknocfoiiaaaGreatDoor
