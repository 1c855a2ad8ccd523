/- TimetableDue: for every argument. -/
import Derived.Test.YtaedelcbioiogaaTtStarts
namespace Go.Proofs.Ytaedelcbioiogaa
set_option linter.unusedVariables false
set_option linter.unusedSimpArgs false
open Go.RowKit
set_option maxRecDepth 100000 in
set_option maxHeartbeats 8000000 in
theorem timetableDue_few (R : List Rte) (B : Option Addr) (d : Nat) (y z : Sl) (s g : Int) (l : List Trp) (A : Option Addr) (c : Nat) (i k : Int) (w : World) (q1 : R.length ≤ 9223372036854775807) (q2 : l.length ≤ 9223372036854775807) (q3 : c ≤ 9223372036854775807) (q4 : l.length ≤ c) (hR : RdS cRte w w.heap.size B R) (hA : RdS cTrp w w.heap.size A l) (hf : fewT R l = false) : Calls Try.prog 7 #[.agg #[.slice B R.length d, .slice y.1 y.2.1 y.2.2, .slice z.1 z.2.1 z.2.2, .int .i64 s, .int .i64 g], .slice A l.length c, .int .i64 i, .int .i64 k] w fun e w' => e = .returned (.bool true) ∧ Below w.heap.size w w' := by
  have hI := TInv.start (d := d) (y := y) (z := z) (s := s) (g := g) hR hA
  have HF := Lib.hid hf
  clear hf hR hA
  go_enter Try.func7, Try.ntmps7
  go_wp2_with fail
  refine (few48_any R B d y z s g l A c _ q1 q2 hI.trs).mono ?_
  rw [HF.out]
  rintro e w1 ⟨rfl, hb⟩
  have hI1 := hI.step hb
  clear hI hb
  go_wp2_with fail
  refine (alive48 _).mono ?_
  rintro e w2 ⟨rfl, hb⟩
  go_wp2_with fail
  go_ret
  exact ⟨rfl, (hI1.step hb).below⟩
set_option maxRecDepth 100000 in
set_option maxHeartbeats 8000000 in
theorem timetableDue_bad (R : List Rte) (B : Option Addr) (d : Nat) (y z : Sl) (s g : Int) (l : List Trp) (A : Option Addr) (c : Nat) (i k : Int) (w : World) (q1 : R.length ≤ 9223372036854775807) (q2 : l.length ≤ 9223372036854775807) (q3 : c ≤ 9223372036854775807) (q4 : l.length ≤ c) (hR : RdS cRte w w.heap.size B R) (hA : RdS cTrp w w.heap.size A l) (hf : fewT R l = true) (hc : (chk R l != 0) = true) : Calls Try.prog 7 #[.agg #[.slice B R.length d, .slice y.1 y.2.1 y.2.2, .slice z.1 z.2.1 z.2.2, .int .i64 s, .int .i64 g], .slice A l.length c, .int .i64 i, .int .i64 k] w fun e w' => e = .returned (.bool true) ∧ Below w.heap.size w w' := by
  have hI := TInv.start (d := d) (y := y) (z := z) (s := s) (g := g) hR hA
  have HF := Lib.hid hf
  clear hf hR hA
  go_enter Try.func7, Try.ntmps7
  go_wp2_with fail
  refine (few48_any R B d y z s g l A c _ q1 q2 hI.trs).mono ?_
  rw [HF.out]
  rintro e w1 ⟨rfl, hb⟩
  have hI1 := hI.step hb
  clear hI hb
  have b0 := hI1.box.cell 0
  have b1 := hI1.box.cell 1
  have b2 := hI1.box.cell 2
  have b3 := hI1.box.cell 3
  have b4 := hI1.box.cell 4
  simp only [List.getElem?_toArray, List.getElem?_cons_succ, List.getElem?_cons_zero] at b0 b1 b2 b3 b4
  go_wp2_with fail
  refine (check_any R B d y z s g l A c _ q1 q4 q3 hI1.rts hI1.trs).mono ?_
  rintro e w2 ⟨rfl, hb⟩
  have hI2 := hI1.step hb
  clear hI1 hb b0 b1 b2 b3 b4
  go_wp2_with fail
  refine (alive48 _).mono ?_
  rintro e w3 ⟨rfl, hb⟩
  go_wp2_with fail
  go_ret
  exact ⟨rfl, (hI2.step hb).below⟩
theorem few_of {R : List Rte} {l : List Trp} (h : fewT R l = true) : fewB l = true := by
  unfold fewT at h
  simp only [Bool.and_eq_true] at h
  exact h.2
theorem due_take (l : List Trp) {n : Nat} (h : n < l.length) : dues (l.take (n + 1)) = dues (l.take n) ++ [dueRow l[n]] := by
  unfold dues
  rw [List.take_succ_eq_append_getElem h, List.map_append]
  rfl
theorem dueRow_take (p : Trp) {j : Nat} (h : j < p.2.length) : (dueRow p).take (j + 1) = (dueRow p).take j ++ [p.2[j].2.1] := by
  unfold dueRow
  rw [List.take_succ_eq_append_getElem (by simpa using h)]
  simp
theorem dueRow_bd {R : List Rte} {l : List Trp} (h : l.all (trpB R.length) = true) : ∀ x ∈ dues l, ∀ n ∈ x, 0 ≤ n ∧ n ≤ 1073741824 := by
  intro x hx n hn
  unfold dues at hx
  rw [List.mem_map] at hx
  obtain ⟨p, hp, rfl⟩ := hx
  unfold dueRow at hn
  rw [List.mem_map] at hn
  obtain ⟨st, hst, rfl⟩ := hn
  rw [List.all_eq_true] at h
  have := h p hp
  unfold trpB at this
  simp only [Bool.and_eq_true, List.all_eq_true] at this
  have := this.2 st hst
  simp only [stpB, decide_eq_true_eq] at this
  omega
theorem info3 : (Try.prog.info? 3).map (fun i => (i.zero, i.size, i.bytes)) = some (some (.int .i64 0), 1, 8) := by kernel_rfl
theorem info23 : (Try.prog.info? 23).map (fun i => (i.zero, i.size, i.bytes)) = some (some (.slice none 0 0), 1, 24) := by kernel_rfl
set_option maxRecDepth 100000 in
set_option maxHeartbeats 16000000 in
theorem timetableDue_ok (R : List Rte) (B : Option Addr) (d : Nat) (y z : Sl) (s g : Int) (l : List Trp) (A : Option Addr) (c : Nat) (i k : Int) (w : World) (q1 : R.length ≤ 9223372036854775807) (q2 : l.length ≤ 9223372036854775807) (q3 : c ≤ 9223372036854775807) (q4 : l.length ≤ c) (hR : RdS cRte w w.heap.size B R) (hA : RdS cTrp w w.heap.size A l) (hf : fewT R l = true) (hc : chk R l = 0) : Calls Try.prog 7 #[.agg #[.slice B R.length d, .slice y.1 y.2.1 y.2.2, .slice z.1 z.2.1 z.2.2, .int .i64 s, .int .i64 g], .slice A l.length c, .int .i64 i, .int .i64 k] w fun e w' => e = .returned (.bool true) ∧ Below w.heap.size w w' := by
  obtain ⟨i0, hi0, hz0, hs0, hby0⟩ := info_parts info3
  obtain ⟨i1, hi1, hz1, hs1, hby1⟩ := info_parts info23
  obtain ⟨h4, hlen, harg⟩ := chk_zero hc
  have HLEN := Lib.hid hlen
  have HARG := Lib.hid harg
  have HBD := Lib.hid (dueRow_bd harg)
  have HD0 := Lib.hid (delay_due harg)
  have HFB := Lib.hid (few_of hf)
  have HC := Lib.hid hc
  have HF := Lib.hid hf
  clear hf hc hlen harg
  have hI := TInv.start (d := d) (y := y) (z := z) (s := s) (g := g) hR hA
  clear hR hA
  go_enter Try.func7, Try.ntmps7
  go_wp2_with fail
  refine (few48_any R B d y z s g l A c _ q1 q2 hI.trs).mono ?_
  rw [HF.out]
  rintro e w1 ⟨rfl, hb⟩
  have hI1 := hI.step hb
  clear hI hb
  have b0 := hI1.box.cell 0
  have b1 := hI1.box.cell 1
  have b2 := hI1.box.cell 2
  have b3 := hI1.box.cell 3
  have b4 := hI1.box.cell 4
  simp only [List.getElem?_toArray, List.getElem?_cons_succ, List.getElem?_cons_zero] at b0 b1 b2 b3 b4
  go_wp2_with fail
  refine (check_any R B d y z s g l A c _ q1 q4 q3 hI1.rts hI1.trs).mono ?_
  rw [HC.out]
  rintro e w2 ⟨rfl, hb⟩
  have hI2 := hI1.step hb
  clear hI1 hb b0 b1 b2 b3 b4
  have hA := hI2.trs
  have hB0 := hI2.below
  clear hI2
  go_wp2_with fail
  go_loopw [9, 10] (fun sv ix wr => ∃ (n : Nat) (us : List Value), n ≤ l.length ∧ ix = .int .i64 n ∧ Rows2 wr w2.heap.size sv us (dues (l.take n)) ∧ Below w2.heap.size w2 wr) (fun _ ix _ => (l.length - intOf ix).toNat)
  case atStart => exact ⟨0, [], by omega, rfl, Rows2.nil _ _, Below.refl _ _⟩
  case round =>
    obtain ⟨n, us, hn, rfl, hrw, hJ⟩ := hrel
    have hjs := hJ.size
    obtain ⟨v9, hv9⟩ : ∃ v9 : Value, v9 = u9 := ⟨_, rfl⟩
    subst hv9
    obtain ⟨wo, rfl⟩ : ∃ wo : World, wo = wr := ⟨_, rfl⟩
    by_cases hlt : n < l.length
    · have HTK := Lib.hid (due_take l hlt)
      have hL1 : 1 ≤ l[n].2.length ∧ l[n].2.length ≤ 4 := by
        have := all_at HLEN.out hlt
        simpa [lenB] using this
      have HTA := Lib.hid (fun (wq : World) (hq : Below w2.heap.size w2 wq) => trp_at (hA.below hq) hlt)
      have HRW := Lib.hid hrw
      clear hA hrw
      generalize l[n] = x at HTK hL1 HTA
      obtain ⟨hL1, hL2⟩ := hL1
      have hnl : (n : Int) < (l.length : Int) := by omega
      go_wp2_with fail
      go_loopw [11, 12] (fun uv ix wr => ∃ (j : Nat) (t : List Int), j ≤ x.2.length ∧ ix = .int .i64 j ∧ t.length = j ∧ t = (dueRow x).take j ∧ wr.ownsRow wo.heap.size 3 1 uv t.length (cI1 t) ∧ Below wo.heap.size wo wr) (fun _ ix _ => (x.2.length - intOf ix).toNat)
      case atStart => exact ⟨0, [], by omega, rfl, rfl, rfl, World.ownsRow_nil _ _ _ _, Below.refl _ _⟩
      case round =>
        obtain ⟨j, t, hj, rfl, htl, ht, hown, hK⟩ := hrel
        have HT := Lib.hid ht
        clear ht
        have hks := hK.size
        have hJK := bel_two hJ (Nat.le_refl _) hK
        obtain ⟨b, off, A', c', rfl, hb1, h1, h2, h3, x0, x1⟩ := HTA.out wr hJK
        have hbw : b < wr.heap.size := by omega
        by_cases hlj : j < x.2.length
        · obtain ⟨bs', os', rfl, hb3, _, s0, s1, s2, s3⟩ := stp_at h3 hlj
          have hbw3 : bs' < wr.heap.size := by omega
          have HTJ := Lib.hid (dueRow_take x hlj)
          have hm : x.2.length ≤ 9223372036854775807 := Nat.le_trans h2 (by decide)
          clear h3
          generalize x.2[j] = sa at s0 s1 s2 s3 HTJ
          obtain ⟨a0, a1, a2, a3⟩ := sa
          have i1 : (j : Int) < (x.2.length : Int) := by omega
          have hw63 : t.length + 1 ≤ 1000000 := by omega
          go_wp2_with (at_builtin; refine wpList_append_i64 _ rfl _ _ _ rfl wo.heap.size 3 i0 Try.underlying23 hi0 hz0 hs0 hby0 u11 t rfl hown a1 3 rfl hw63 hks wo hK ?_; intro v1 w5 hown1 hb5)
          have HT5 := Lib.hid (show t ++ [a1] = (dueRow x).take (j + 1) by rw [HTJ.out, HT.out])
          have hle : (t ++ [a1]).length = j + 1 := by simp; omega
          have hown2 : w5.ownsRow wo.heap.size 3 1 v1 (t ++ [a1]).length (cI1 (t ++ [a1])) := by rw [hle, ← htl]; exact hown1
          have hb6 := hb5
          clear hown hown1 hK hJK hb5
          go_wp2_with fail
          go_roundw
          case rel => exact ⟨j + 1, t ++ [a1], by omega, by go_num, hle, HT5.out, hown2, hb6⟩
          case measure => simp [intOf] <;> omega
        · have hje : j = x.2.length := by omega
          have HTE := Lib.hid (show t = dueRow x by rw [HT.out, hje]; exact List.take_of_length_le (by simp [dueRow]))
          have hm : x.2.length ≤ 9223372036854775807 := Nat.le_trans h2 (by decide)
          clear h3 HT HTA
          have HLE := Lib.hid (show t.length = x.2.length by omega)
          rw [HLE.out] at hown
          have hjx : x.2.length ≤ j := by omega
          clear htl hje
          rcases hown.2 with ⟨_, h0⟩ | ⟨g', cap', cur, hu, hg1, _⟩
          · omega
          · subst hu
            have hR1 := HRW.out.below hK
            have hus := hR1.len
            have hown9 : wr.ownsRow w2.heap.size 23 1 v9 us.length us := by rw [hus]; exact hR1.own
            have hlt9 := hown9.lt
            have hw63 : us.length + 1 ≤ 1000000 := by
              have : (dues (l.take n)).length = n := by simp [dues]; omega
              omega
            have hbase9 : w2.heap.size ≤ wr.heap.size := by omega
            have hR2 := hR1.below ((Below.refl wr.heap.size wr).alloc (Nat.le_refl _) (.cells #[.slice (some ⟨g', 0, none⟩) x.2.length cap'] 23))
            have hr2 := (own_base hown hjs).alloc (.cells #[.slice (some ⟨g', 0, none⟩) x.2.length cap'] 23)
            have hap : ∀ (j : Nat) (u' : Value), us[j]? = some u' → u'.ownBlock ≠ none → u'.ownBlock ≠ (Value.slice (some ⟨g', 0, none⟩) x.2.length cap').ownBlock := by
              intro j' u' hu' hn' he
              have hj' : j' < (dues (l.take n)).length := by have := (List.getElem?_eq_some_iff.1 hu').1; omega
              have h1 := HRW.out.row j' u' _ hu' (List.getElem?_eq_getElem hj')
              have h2 := h1.lt g' (by rw [he]; rfl)
              omega
            have HR2 := Lib.hid hR2
            have HR3 := Lib.hid hr2
            have HAP := Lib.hid hap
            have HUS := Lib.hid hus
            have HLT9 := Lib.hid hlt9
            clear hR1 hR2 hr2 hap hus hlt9 hown hK HRW
            go_wp2_with (at_builtin; refine wpList_append_row1 _ rfl _ _ _ rfl w2.heap.size 23 i1 Try.underlying42 hi1 hz1 hs1 hby1 v9 us us.length rfl (by rfl) hown9 (some ⟨g', 0, none⟩) x.2.length cap' 23 (by rfl) hw63 hbase9 ?_; intro v1 w6 hown1 hg6)
            have hR6 := Rows2.snoc HR2.out (by rw [HLE.out]; exact HR3.out) HAP.out (by rw [← HUS.out]; exact hown1) hg6
            have hb6 : Below w2.heap.size w2 w6 := (hJK.alloc hbase9 _).grown hg6 (by simp; omega) fun k hk => (HLT9.out k hk).1
            have HL6 := Lib.hid (show dues (l.take (n + 1)) = dues (l.take n) ++ [t] by rw [HTK.out, HTE.out])
            have HR6 := Lib.hid hR6
            clear hR6 hg6 hown1 hown9 HR2 HR3 HAP HUS HLT9 HTK HTE hJK
            go_wp2_with fail
            go_roundw
            case rel => exact ⟨n + 1, _, by omega, by go_num, by rw [HL6.out]; exact HR6.out, hb6⟩
            case measure => simp [intOf] <;> omega
    · have hne : n = l.length := by omega
      have hrw' : Rows2 wo w2.heap.size v9 us (dues l) := by rw [hne, List.take_length] at hrw; exact hrw
      clear hrw hne
      obtain ⟨A1, c1, hv, hr1⟩ := hrw'.rd (fun x hx m hm => by have := HBD.out x hx m hm; exact ⟨by omega, by omega⟩)
      subst hv
      have HRW := Lib.hid hrw'
      have HR1 := Lib.hid hr1
      have HA1 := Lib.hid ((hA.below hJ).more hjs)
      have hdl : (dues l).length ≤ 9223372036854775807 := by simp [dues]; omega
      have hdl4 : (dues l).length = l.length := by simp [dues]
      have HDL := Lib.hid hdl4
      clear hrw' hr1 hdl4
      go_wp2_with fail
      clear hlt
      refine (delay_any l A c (dues l) A1 c1 _ HFB.out hdl HA1.out HR1.out).mono ?_
      rw [HD0.out]
      rintro e w5 ⟨rfl, hb⟩
      have hJ5 := bel_two hJ (Nat.le_refl _) hb
      have HRW5 := Lib.hid (HRW.out.below hb)
      clear hJ hb HRW HR1 HA1
      by_cases hi : 0 ≤ i ∧ i < (l.length : Int)
      · obtain ⟨hia, hib⟩ := hi
        obtain ⟨i', rfl⟩ := Int.eq_ofNat_of_zero_le hia
        have hil : i' < l.length := by omega
        have HTA := Lib.hid (fun (wq : World) (hq : Below w2.heap.size w2 wq) => trp_at (hA.below hq) hil)
        have HLT := Lib.hid (fun (k' : Nat) (h : k' < l[i'].2.length) => delay_later HARG.out hil h)
        have HDI := Lib.hid (show (dues l)[i']? = some (dueRow l[i']) by simp [dues, hil])
        have HLI := Lib.hid (fun (k' : Nat) (h : k' < l[i'].2.length) => show later l i' k' = (dues l).set i' ((dueRow l[i']).set k' (l[i'].2[k'].2.1 + 1)) by simp [later, hil, h])
        have HBI := Lib.hid (fun (k' : Nat) (h : k' < l[i'].2.length) => HBD.out (dueRow l[i']) (by rw [List.mem_iff_getElem?]; exact ⟨i', HDI.out⟩) (l[i'].2[k'].2.1) (by unfold dueRow; exact List.mem_map_of_mem (List.getElem_mem h)))
        generalize l[i'] = x at HTA HLT HDI HLI HBI
        obtain ⟨b, off, A', c', rfl, hb1, h1, h2, h3, x0, x1⟩ := HTA.out w5 hJ5
        have h2' : x.2.length ≤ 9223372036854775807 := Nat.le_trans h2 (by decide)
        have hz5 := hJ5.size
        have hbw : b < w5.heap.size := by omega
        by_cases hk : 0 ≤ k ∧ k < (x.2.length : Int)
        · obtain ⟨hka, hkb⟩ := hk
          obtain ⟨k', rfl⟩ := Int.eq_ofNat_of_zero_le hka
          have hkl : k' < x.2.length := by omega
          have hdk : (dueRow x)[k']? = some x.2[k'].2.1 := by simp [dueRow, hkl]
          obtain ⟨g1, cg1, g2, cg2, hv1, hu1, f1, f2, f3, hg2⟩ := HRW5.out.at_ HDI.out hdk
          have hA1 : A1 = some ⟨g1, 0, none⟩ ∧ c1 = cg1 := by injection hv1 with e1 e2 e3; exact ⟨e1, e3⟩
          obtain ⟨rfl, rfl⟩ := hA1
          have hput := HRW5.out.put (x.2[k'].2.1 + 1) HDI.out hu1 (k := k')
          have HPUT := Lib.hid hput
          have HLT2 := Lib.hid (HLT.out k' hkl)
          have HLI2 := Lib.hid (HLI.out k' hkl)
          have hbd := HBI.out k' hkl
          obtain ⟨hbd1, hbd2⟩ := hbd
          have HSX := Lib.hid (fun (wq : World) (B : Nat) (A' : Option Addr) (hq : RdS cStp wq B A' x.2) => stp_at hq hkl)
          clear hput hdk hv1 hu1 HLT HLI HBI
          generalize x.2[k'] = sa at HPUT HLT2 HLI2 hbd1 hbd2 f2 HSX
          obtain ⟨a0, a1, a2, a3⟩ := sa
          have hrl : (dueRow x).length = x.2.length := by simp [dueRow]
          have hni : (i' : Int) < ((dues l).length : Int) := by have := HDL.out; omega
          have hnk : (k' : Int) < ((dueRow x).length : Int) := by omega
          have HRL := Lib.hid hrl
          clear hrl
          go_wp2_with fail
          have hJ6 : Below w2.heap.size w2 (w5.setCell ⟨g2, k', none⟩ (.int .i64 (a1 + 1))) := hJ5.setCell hg2 _
          generalize (w5.setCell ⟨g2, k', none⟩ (.int .i64 (a1 + 1))) = w6 at HPUT hJ6 ⊢
          have hll : (dues l).length = (later l i' k').length := by simp [later]
          have hP2 := HPUT.out
          rw [← HLI2.out] at hP2
          obtain ⟨A2, c2, hv2, hr2⟩ := hP2.rd (fun y hy m hm => by
            rw [HLI2.out] at hy
            rcases List.mem_or_eq_of_mem_set hy with h | h
            · have := HBD.out y h m hm
              exact ⟨by omega, by omega⟩
            · subst h
              rcases List.mem_or_eq_of_mem_set hm with h | h
              · have := HBD.out (dueRow x) (by rw [List.mem_iff_getElem?]; exact ⟨i', HDI.out⟩) m h
                exact ⟨by omega, by omega⟩
              · subst h
                exact ⟨by omega, by omega⟩)
          have hv3 : A2 = some ⟨g1, 0, none⟩ ∧ c2 = c1 := by
            injection hv2 with e1 e2 e3
            exact ⟨e1.symm, e3.symm⟩
          obtain ⟨rfl, rfl⟩ := hv3
          clear f1 f2 f3 hv2 hP2
          have hlq : (later l i' k').length ≤ 9223372036854775807 := by omega
          rw [hll]
          refine (delay_any l (some ⟨b, off, none⟩) c (later l i' k') (some ⟨g1, 0, none⟩) c2 _ HFB.out hlq ((hA.below hJ6).more hJ6.size) hr2).mono ?_
          rw [HLT2.out]
          rintro e w7 ⟨rfl, hb⟩
          have hJ7 := bel_two hJ6 (Nat.le_refl _) hb
          obtain ⟨_, _, A7, c7, e, _, _, _, h37, x07, x17⟩ := HTA.out w7 hJ7
          cases e
          obtain ⟨bs', os', rfl, hb3, _, s0, s1, s2, s3⟩ := HSX.out w7 _ _ h37
          have hz7 := hJ7.size
          have hbw7 : b < w7.heap.size := by omega
          have hbw8 : bs' < w7.heap.size := by omega
          clear hb hr2 hll h3 x0 x1 h37
          go_wp2_with fail
          refine (alive48 _).mono ?_
          rintro e w9 ⟨rfl, hb⟩
          go_wp2_with fail
          go_ret
          exact ⟨by simp, bel_then hB0 hB0.size (bel_two hJ7 (Nat.le_refl _) hb)⟩
        · have hk' : ¬ (0 ≤ k ∧ k < (x.2.length : Int)) := hk
          clear hk
          go_wp2_with fail
          all_goals try (exfalso; omega)
          all_goals
            refine (alive48 _).mono ?_
            rintro e w9 ⟨rfl, hb⟩
            go_wp2_with fail
            go_ret
            exact ⟨rfl, bel_then hB0 hB0.size (bel_two hJ5 (Nat.le_refl _) hb)⟩
      · go_wp2_with fail
        all_goals try (exfalso; omega)
        all_goals
          refine (alive48 _).mono ?_
          rintro e w9 ⟨rfl, hb⟩
          go_wp2_with fail
          go_ret
          exact ⟨rfl, bel_then hB0 hB0.size (bel_two hJ5 (Nat.le_refl _) hb)⟩
theorem timetableDue_walk (R : List Rte) (B : Option Addr) (d : Nat) (y z : Sl) (s g : Int) (l : List Trp) (A : Option Addr) (c : Nat) (i k : Int) (w : World) (hlR : R.length ≤ maxLen) (hR : RdS cRte w w.heap.size B R) (hl : l.length ≤ maxLen ∧ l.length ≤ c ∧ c ≤ maxLen) (hA : RdS cTrp w w.heap.size A l) (hi : I64n i) (hk : I64n k) :
    Calls Try.prog 7 #[.agg #[.slice B R.length d, .slice y.1 y.2.1 y.2.2, .slice z.1 z.2.1 z.2.2, .int .i64 s, .int .i64 g], .slice A l.length c, .int .i64 i, .int .i64 k] w fun e w' => e = .returned (.bool true) ∧ Below w.heap.size w w' := by
  have e63 : maxLen ≤ 9223372036854775807 := by decide
  have q1 : R.length ≤ 9223372036854775807 := Nat.le_trans hlR e63
  have q2 : l.length ≤ 9223372036854775807 := Nat.le_trans hl.1 e63
  have q3 : c ≤ 9223372036854775807 := Nat.le_trans hl.2.2 e63
  cases hf : fewT R l
  · exact timetableDue_few R B d y z s g l A c i k w q1 q2 q3 hl.2.1 hR hA hf
  · by_cases hc : chk R l = 0
    · exact timetableDue_ok R B d y z s g l A c i k w q1 q2 q3 hl.2.1 hR hA hf hc
    · exact timetableDue_bad R B d y z s g l A c i k w q1 q2 q3 hl.2.1 hR hA hf (by rw [bne_iff_ne]; exact hc)
end Go.Proofs.Ytaedelcbioiogaa
