/- Words come to stand for something, for something else, for nothing. -/
import Derived.Test.YtbmldiklgkojnaaTbQ
import Derived.Test.YtbmldiklgkojnaaTbV
namespace Go.Proofs.Ytbmldiklgkojnaa.lawTableAll
open Go.ChangeShapes Go.WideShapes Go.ChangeAt Go.RowKit
set_option linter.unusedVariables false

set_option maxRecDepth 100000 in
set_option maxHeartbeats 8000000 in
theorem walk (m : Int) (v : Value) (words : List ByteArray) (w : World) (hm : w.cell? ⟨0, 0, none⟩ = some (.int .i64 m)) (hr : rdT w v words) (hz : ∀ s ∈ words, s.size ≤ 9223372036854775807) :
    Calls Try.prog 3 #[v] w fun e w' => e = .returned (.bool true) ∧ Below w.heap.size w w' := by
  have hmH := Lib.hid hm
  have h0 := cell_lt hm
  obtain ⟨a, cap, rfl, hcp, hM, ha⟩ := hr
  unfold maxLen at hM
  replace ha := Lib.hid ha
  replace hz := Lib.hid hz
  clear hm
  go_enter Try.func3, Try.ntmps3
  go_wp2_with fail
  refine (b15_any m _ hmH.out).mono ?_
  rintro r w1 ⟨rfl, hb1⟩
  have hB := Lib.hid hb1
  clear hb1
  go_wp2_with fail
  refine (tNew_any _).mono ?_
  rintro r w2 ⟨q, tb, rfl, hT, hq, htb, hb2⟩
  have hql := hT.ltq
  have htl := hT.ltb
  have hne := hT.ne
  have hsz := hB.out.size
  replace hB := Lib.hid (hB.out.trans (hb2.mono hsz))
  obtain ⟨wa, hwa⟩ : ∃ W, W = w2.alloc (.cells #[.slice none 0 0] 29) := ⟨_, rfl⟩
  have hba : Below w2.heap.size w2 wa := hwa ▸ (Below.refl _ _).alloc (Nat.le_refl _) _
  have hx : wa.heap[w2.heap.size]? = some (.cells #[.slice none 0 0] 29 (0, 0)) := hwa ▸ at_new _ _
  obtain ⟨rb, hrb⟩ : ∃ n, n = w2.heap.size := ⟨_, rfl⟩
  rw [← hrb] at hx
  have hqrb : q < rb := by omega
  have htrb : tb < rb := by omega
  have hqw : w.heap.size ≤ q := by omega
  have htw : w.heap.size ≤ tb := by omega
  have hR : rtO wa rb [] := ⟨_, hx, none, 0, rfl, Nat.le_refl _, Nat.zero_le _, fun h => by simp at h⟩
  replace hT := Lib.hid (hT.grow hba)
  replace hR := Lib.hid hR
  replace hB := Lib.hid (hB.out.trans (hba.mono hB.out.size))
  clear hb2 hba hx
  go_upto_region 6 with (fail)
  rw [← hwa, ← hrb]
  clear hwa
  replace hrb := Lib.hid hrb
  go_wp2
  go_loopw [6] (fun i wr => ∃ (k : Nat) (L : Tb), k ≤ words.length ∧ k ≤ 40 ∧ i = .int .i64 k ∧ TbO wr q tb L ∧ rtO wr rb L ∧ L.length ≤ k ∧ Below w.heap.size w wr) (fun i _ => 40 - (intOf i).toNat)
  case atStart => exact ⟨0, [], Nat.zero_le _, Nat.zero_le _, rfl, hT.out, hR.out, Nat.le_refl _, hB.out⟩
  case round =>
    clear hT hR hB
    obtain ⟨k, L, hk, hk40, rfl, hT, hR, hLk, hbel⟩ := hrel
    by_cases hlt : k < words.length
    · by_cases h40 : k < 40
      · obtain ⟨g, off, rfl, hce⟩ := ha.out (by omega)
        have hcl := cell_bel (hce k hlt) hbel
        have hnz := hz.out _ (List.getElem_mem hlt)
        clear hce
        generalize words[k] = x at hcl hnz
        have hC2 := cutN_any x 20 wr hnz (by omega)
        have hdz := cutS_size x 20
        generalize cutS x 20 = d at hC2 hdz
        obtain ⟨wB, hwB⟩ : ∃ W, W = wr.alloc (boxW ((k : Int) + 1) d) := ⟨_, rfl⟩
        have hbB : Below wr.heap.size wr wB := hwB ▸ (Below.refl _ _).alloc (Nat.le_refl _) _
        have hxB : wB.heap[wr.heap.size]? = some (boxW ((k : Int) + 1) d) := hwB ▸ at_new _ _
        obtain ⟨nE, hnE⟩ : ∃ n, n = wr.heap.size := ⟨_, rfl⟩
        rw [← hnE] at hxB
        obtain ⟨_, hvR, _⟩ := id hR
        have hrbl := at_lt hvR
        clear hvR
        have htl2 := hT.ltb
        have hnEl := at_lt hxB
        have hsr := hbel.size
        have hTB := Lib.hid (hT.grow hbB)
        have hRB := Lib.hid (hR.grow hbB)
        replace hbel := Lib.hid (hbel.trans (hbB.mono hsr))
        have hmB := Lib.hid (cell_bel hmH.out hbel.out)
        have hsB := hbel.out.size
        clear hT hR hbB
        have hF1 : ¬ (nE = tb ∨ nE = rb ∨ wB.heap.size ≤ nE) := by omega
        have hue := boxW_up (F := fun j => j = tb ∨ j = rb ∨ wB.heap.size ≤ j) hxB hF1
        have e0 := fun x => (hue x).1
        have e1 := fun x => (hue x).2.1
        have e2 := fun x => (hue x).2.2.1
        have e3 := fun x => (hue x).2.2.2.1
        have e4 := fun x => (hue x).2.2.2.2.1
        have e5 := fun x => (hue x).2.2.2.2.2.1
        have e6 := fun x => (hue x).2.2.2.2.2.2
        clear hue
        have hD1 := fun W hW hmW => tDo_any q tb L (entW ((k : Int) + 1) d) m W hW (by omega) hmW (by dsimp only; omega)
        have hD2 := fun W hW => r12Do_any rb L (entW ((k : Int) + 1) d) W hW hTB.out.up (by omega) (by dsimp only; omega)
        have hll := next_len L (entW ((k : Int) + 1) d)
        have hsmN := next_small hTB.out.small (entW ((k : Int) + 1) d)
        generalize nextT L (entW ((k : Int) + 1) d) = L' at hD1 hD2 hll hsmN
        generalize okDo (entW ((k : Int) + 1) d) = ok at hD1 hD2
        simp only [Ent.val] at hD1 hD2
        replace hD1 := Lib.hid hD1
        replace hD2 := Lib.hid hD2
        replace hsmN := Lib.hid hsmN
        replace hxB := Lib.hid hxB
        go_wp2_with fail
        refine hC2.mono ?_
        rintro r w3 ⟨rfl, rfl⟩
        clear hC2 hcl
        go_upto_region 10 with (fail)
        rw [← hwB, ← hnE]
        clear hwB
        replace hnE := Lib.hid hnE
        refine wp_region_pm (fun j => j = tb ∨ j = rb ∨ wB.heap.size ≤ j) wB (.q 0 (.q 1 (.q 3 (.q 4 (.l 2 (.l 5 (.q 6 (.q 7 (.q 8 (.q 10 (.l 9 (.l 11 (.q 12 (.q 13 .fin)))))))))))))) (by kernel_rfl) (by kernel_rfl) (Chg.refl _ _) ?_
        intro y1 hheap hy1 _
        repeat (refine pm_q rfl ?_; go_big_quiet_step (fail); refine wpQuiet_nil ?_)
        clear e0 e1 e2 e3 e4 e5 e6 hheap
        have hT1 := hTB.out.grow hy1
        have hR1 := hRB.out.grow hy1
        have hm1 := cell_bel hmB.out hy1
        have hc1 : Chg (fun j => j = tb ∨ j = rb ∨ wB.heap.size ≤ j) wB y1 := .of_below hy1
        refine pm_l rfl (by kernel_rfl) ?_
        intro K hK
        go_simp
        refine (hD1.out y1 hT1 hm1).mono ?_
        rintro r y2 ⟨rfl, hT2, hc2⟩
        obtain ⟨_, es, clock, hmap, _⟩ := hT1.own
        have hR2 := hR1.chg hmap hc2
        have hc2' := hc1.more hc2 (fun i hi => .inl (.inl hi))
        refine hK _ _ hc2' ?_
        clear hK K hc1 hc2 hm1 hT1 hR1 hmap
        refine pm_l rfl (by kernel_rfl) ?_
        intro K hK
        go_simp
        refine (hD2.out y2 hR2).mono ?_
        rintro r y3 ⟨rfl, hR3, hc3⟩
        have hT3 := hT2.chg hc3 (by omega) (by omega)
        have hc3' := hc2'.more hc3 (fun i hi => .inl (.inr (.inl hi)))
        refine hK _ _ hc3' ?_
        clear hK K hc2' hc3 hT2 hR2
        repeat (refine pm_q rfl ?_; go_big_quiet_step (fail); refine wpQuiet_nil ?_)
        refine pm_l rfl (by kernel_rfl) ?_
        intro K hK
        go_simp
        refine (tSum_any q tb L' y3 hT3 (by omega)).mono ?_
        rintro r y4 ⟨rfl, hb4⟩
        have hR4 := hR3.grow hb4
        have hT4 := hT3.grow hb4
        have hc4' := hc3'.on hb4
        refine hK _ _ hc4' ?_
        clear hK K hb4 hT3 hR3 hc3'
        refine pm_l rfl (by kernel_rfl) ?_
        intro K hK
        go_simp
        refine (r12Sum_any rb L' y4 hR4 (by omega) hsmN.out).mono ?_
        rintro r y5 ⟨rfl, hb5⟩
        have hR5 := hR4.grow hb5
        have hT5 := hT4.grow hb5
        have hc5' := hc4'.on hb5
        refine hK _ _ hc5' ?_
        clear hK K hb5 hT4 hR4 hc4'
        repeat (refine pm_q rfl ?_; go_big_quiet_step (fail); refine wpQuiet_nil ?_)
        refine pm_fin ?_
        have hx5 := at_chg hxB.out hc5' hF1
        have hB5 := Lib.hid (hbel.out.trans (hc5'.below hsB (fun k hk => by omega)))
        have hL41 : L'.length ≤ 41 := by omega
        clear hc5' hTB hRB hmB hxB hbel hy1 hD1 hD2
        replace hT5 := Lib.hid hT5
        replace hR5 := Lib.hid hR5
        have hm5 := Lib.hid (cell_bel hmH.out hB5.out)
        have c6 := cell_at hx5 6
        simp only [List.getElem?_toArray, List.getElem?_cons_zero, List.getElem?_cons_succ] at c6
        have hwz := wordT_size d
        have hW1 := tWord_any d m y5 (by omega) hm5.out
        have hW2 := fun W => r12Word_any d W (by omega)
        obtain ⟨⟨a1, b1, o1⟩, hwd⟩ : ∃ t, wordT d = t := ⟨_, rfl⟩
        rw [hwd] at hW1 hW2 hwz
        dsimp only at hW1 hW2 hwz
        clear hwd
        replace hW1 := Lib.hid hW1
        replace hW2 := Lib.hid hW2
        go_wp2_with fail
        refine hW1.out.mono ?_
        rintro r y6 ⟨rfl, hb6⟩
        have hx6 := at_below hx5 hb6
        replace hT5 := Lib.hid (hT5.out.grow hb6)
        replace hR5 := Lib.hid (hR5.out.grow hb6)
        replace hB5 := Lib.hid (hB5.out.trans (hb6.mono hB5.out.size))
        clear hb6 hx5 c6 hW1 hm5
        have c6 := cell_at hx6 6
        simp only [List.getElem?_toArray, List.getElem?_cons_zero, List.getElem?_cons_succ] at c6
        go_wp2_with fail
        refine (hW2.out y6).mono ?_
        rintro r y7 ⟨rfl, hb7⟩
        replace hT5 := Lib.hid (hT5.out.grow hb7)
        replace hR5 := Lib.hid (hR5.out.grow hb7)
        replace hB5 := Lib.hid (hB5.out.trans (hb7.mono hB5.out.size))
        clear hb7 hx6 c6 hW2
        have hG1 := tGet_any q tb L' a1 y7 hT5.out (by omega)
        have hG2 := r12Get_any rb L' a1 y7 hR5.out (by omega)
        obtain ⟨⟨g1, g2⟩, hgg⟩ : ∃ t, getT L' a1 = t := ⟨_, rfl⟩
        rw [hgg] at hG1 hG2
        clear hgg
        replace hG1 := Lib.hid hG1
        replace hG2 := Lib.hid hG2
        go_wp2_with fail
        refine hG1.out.mono ?_
        rintro r y8 ⟨rfl, rfl⟩
        go_wp2_with fail
        refine hG2.out.mono ?_
        rintro r y9 ⟨rfl, rfl⟩
        clear hG1 hG2
        go_wp2
        go_roundw
        case rel => exact ⟨k + 1, L', by omega, by omega, by go_num, hT5.out, hR5.out, by omega, hB5.out⟩
        case measure => simp [intOf]; omega
      · skip
        have hup := hT.up
        have hL40 : L.length ≤ 40 := by omega
        replace hR := Lib.hid hR
        replace hbel := Lib.hid hbel
        have hN := tNames_any q tb L wr hT (by omega)
        replace hN := Lib.hid hN
        clear hT
        go_wp2_with fail
        refine hN.out.mono ?_
        rintro r w4 ⟨v4, rfl, hrow, hb4⟩
        rw [strsV_names] at hrow
        have hN4 : ∃ a cap, v4 = .slice a L.length cap ∧ L.length ≤ cap ∧ cap ≤ maxLen ∧ (0 < L.length → ∃ g, a = some ⟨g, 0, none⟩ ∧ ∀ k (hk : k < L.length), w4.cell? ⟨g, k, none⟩ = some (.string L[k].1)) := by
          obtain ⟨_, ⟨rfl, h0⟩ | ⟨g, cap, cur, rfl, hb, hg, hn, hc, hs, ht⟩⟩ := hrow
          · exact ⟨none, 0, by rw [h0], by omega, Nat.zero_le _, fun h => by omega⟩
          · refine ⟨some ⟨g, 0, none⟩, cap, rfl, hn, hc, fun _ => ⟨g, rfl, fun k hk => ?_⟩⟩
            have h1 : (cur.toList.take (L.length * 1))[k]? = some (.string L[k].1) := by
              rw [ht, List.getElem?_map, List.getElem?_eq_getElem hk]; rfl
            rw [List.getElem?_take] at h1
            split at h1
            · simp [World.cell?, hg] at h1 ⊢
              simpa using h1
            · cases h1
        obtain ⟨a4, cap4, rfl, hm4, hM4, hc4⟩ := hN4
        unfold maxLen at hM4
        obtain ⟨v5, hv5, a5, cap5, rfl, hm5, hM5, hc5⟩ := hR.out.grow hb4
        unfold maxLen at hM5
        have c0 := cell_at hv5 0
        simp only [List.getElem?_toArray, List.getElem?_cons_zero] at c0
        replace hbel := Lib.hid (hbel.out.trans (hb4.mono hbel.out.size))
        replace hc4 := Lib.hid hc4
        replace hc5 := Lib.hid hc5
        clear hrow hb4 hR hN hv5
        go_wp2
        go_loopw [19] (fun i wx => ∃ j : Nat, j ≤ L.length ∧ i = .int .i64 j ∧ Below w4.heap.size w4 wx) (fun i _ => L.length - (intOf i).toNat)
        case atStart => exact ⟨0, Nat.zero_le _, rfl, Below.refl _ _⟩
        case round =>
          obtain ⟨j, hj, rfl, hbx⟩ := hrel
          have d0 := cell_bel c0 hbx
          by_cases hjl : j < L.length
          · obtain ⟨g4, rfl, hcn⟩ := hc4.out (by omega)
            obtain ⟨g5, o5, rfl, hcp5⟩ := hc5.out (by omega)
            have d1 := cell_bel (hcn j hjl) hbx
            have d2 := cell_bel (hcp5 j hjl).1 hbx
            clear hcn hcp5
            generalize L[j] = p at d1 d2
            obtain ⟨p1, p2⟩ := p
            dsimp only at d1 d2
            have t0 := upTo_cell d0
            have t1 := upTo_cell d1
            have t2 := upTo_cell d2
            replace hbx := Lib.hid hbx
            go_upto_region 24 with (fail)
            clear d0 d1 d2
            refine wp_region_up (by kernel_rfl) (by kernel_rfl) ?_
            repeat (go_big_quiet_step (fail))
            refine wpQuiet_nil ?_
            intro w5 hw5
            have hb5 := Lib.hid (hbx.out.trans ((up_below hw5).mono hbx.out.size))
            clear hw5 t0 t1 t2
            go_wp2
            go_roundw
            case rel => exact ⟨j + 1, by omega, by go_num, hb5.out⟩
            case measure => simp [intOf]; omega
          · obtain rfl : j = L.length := by omega
            have hB := Lib.hid (hbel.out.trans (hbx.mono hbel.out.size))
            clear hbx
            go_wp2
            go_ret
            exact ⟨rfl, hB.out⟩
    · skip
      have hup := hT.up
      have hL40 : L.length ≤ 40 := by omega
      replace hR := Lib.hid hR
      replace hbel := Lib.hid hbel
      have hN := tNames_any q tb L wr hT (by omega)
      replace hN := Lib.hid hN
      clear hT
      go_wp2_with fail
      refine hN.out.mono ?_
      rintro r w4 ⟨v4, rfl, hrow, hb4⟩
      rw [strsV_names] at hrow
      have hN4 : ∃ a cap, v4 = .slice a L.length cap ∧ L.length ≤ cap ∧ cap ≤ maxLen ∧ (0 < L.length → ∃ g, a = some ⟨g, 0, none⟩ ∧ ∀ k (hk : k < L.length), w4.cell? ⟨g, k, none⟩ = some (.string L[k].1)) := by
        obtain ⟨_, ⟨rfl, h0⟩ | ⟨g, cap, cur, rfl, hb, hg, hn, hc, hs, ht⟩⟩ := hrow
        · exact ⟨none, 0, by rw [h0], by omega, Nat.zero_le _, fun h => by omega⟩
        · refine ⟨some ⟨g, 0, none⟩, cap, rfl, hn, hc, fun _ => ⟨g, rfl, fun k hk => ?_⟩⟩
          have h1 : (cur.toList.take (L.length * 1))[k]? = some (.string L[k].1) := by
            rw [ht, List.getElem?_map, List.getElem?_eq_getElem hk]; rfl
          rw [List.getElem?_take] at h1
          split at h1
          · simp [World.cell?, hg] at h1 ⊢
            simpa using h1
          · cases h1
      obtain ⟨a4, cap4, rfl, hm4, hM4, hc4⟩ := hN4
      unfold maxLen at hM4
      obtain ⟨v5, hv5, a5, cap5, rfl, hm5, hM5, hc5⟩ := hR.out.grow hb4
      unfold maxLen at hM5
      have c0 := cell_at hv5 0
      simp only [List.getElem?_toArray, List.getElem?_cons_zero] at c0
      replace hbel := Lib.hid (hbel.out.trans (hb4.mono hbel.out.size))
      replace hc4 := Lib.hid hc4
      replace hc5 := Lib.hid hc5
      clear hrow hb4 hR hN hv5
      go_wp2
      go_loopw [19] (fun i wx => ∃ j : Nat, j ≤ L.length ∧ i = .int .i64 j ∧ Below w4.heap.size w4 wx) (fun i _ => L.length - (intOf i).toNat)
      case atStart => exact ⟨0, Nat.zero_le _, rfl, Below.refl _ _⟩
      case round =>
        obtain ⟨j, hj, rfl, hbx⟩ := hrel
        have d0 := cell_bel c0 hbx
        by_cases hjl : j < L.length
        · obtain ⟨g4, rfl, hcn⟩ := hc4.out (by omega)
          obtain ⟨g5, o5, rfl, hcp5⟩ := hc5.out (by omega)
          have d1 := cell_bel (hcn j hjl) hbx
          have d2 := cell_bel (hcp5 j hjl).1 hbx
          clear hcn hcp5
          generalize L[j] = p at d1 d2
          obtain ⟨p1, p2⟩ := p
          dsimp only at d1 d2
          have t0 := upTo_cell d0
          have t1 := upTo_cell d1
          have t2 := upTo_cell d2
          replace hbx := Lib.hid hbx
          go_upto_region 24 with (fail)
          clear d0 d1 d2
          refine wp_region_up (by kernel_rfl) (by kernel_rfl) ?_
          repeat (go_big_quiet_step (fail))
          refine wpQuiet_nil ?_
          intro w5 hw5
          have hb5 := Lib.hid (hbx.out.trans ((up_below hw5).mono hbx.out.size))
          clear hw5 t0 t1 t2
          go_wp2
          go_roundw
          case rel => exact ⟨j + 1, by omega, by go_num, hb5.out⟩
          case measure => simp [intOf]; omega
        · obtain rfl : j = L.length := by omega
          have hB := Lib.hid (hbel.out.trans (hbx.mono hbel.out.size))
          clear hbx
          go_wp2
          go_ret
          exact ⟨rfl, hB.out⟩

/-! the row's step, written out by law.py -/
set_option maxRecDepth 100000 in
theorem lifted (os : Os) (started : os.Started) (H : Type) (enc : TypeId × Value → H) :
    ReturnsInHanded {} Try.checked os 3 .any (Rows.tableAllSpec.pre6 enc Try.prog Try.f3 Rows.tableAllRow.domain false) (Rows.tableAllSpec.post enc Try.prog Try.f3 false true false false) := by
  refine returnsInHanded_of_change_shaped (C := Try.checked) own started (by kernel_rfl) Try.func3
    (ChangeSpec.witness6 (enc := enc) (C := Try.checked) false ⟨#[], #[.slice none 0 0], []⟩ 8 (by kernel_rfl) (by kernel_rfl) (by kernel_rfl) (by kernel_rfl)) ?_
  intro W base args ds gs before hval0 hW hcnd _ hsh _
  have hval : ∀ (j : Nat) t v, Try.f3.params[j]? = some t → args[j]? = some v → Value.okWide Try.prog W .any base t v := hval0
  have hW' := hW
  obtain ⟨p, q, hA0, hV, rfl, hfz, hnd⟩ := hW
  have hA : DataW.TrodAll enc Try.prog W 0 (fun _ => true) true Try.f3.params.toList args.toList ds p := hA0
  rw [Try.params3] at hA hval
  obtain ⟨v0, vs0, d0, ds0, p0, q0, hargs, rfl, rfl, h0, r0⟩ := trodAll_cons hA
  obtain ⟨rfl, rfl, rfl⟩ := trodAll_nil r0
  obtain rfl : args = #[v0] := by cases args; simp_all
  obtain ⟨rfl, rfl⟩ := trodVars_none hV
  have k0 := h0
  have lt0 : ∀ x ∈ p0, x.block < W.heap.size := by obtain ⟨m, hm⟩ := k0; exact DataW.trod_lt m _ _ _ hm
  obtain ⟨l0, w0, b0⟩ := slstring_open (hval 0 22 v0 rfl rfl) h0
  clear hA0 hval0
  simp only [List.append_nil] at hW'
  obtain ⟨m, hm⟩ := maxLen_cell W hsh
  refine (walk m v0 l0 W hm w0 b0).mono fun e W' ⟨he, bel⟩ => ?_
  subst he
  exact ⟨_, rfl, _, _, _, [], _, [], hW', trodAll_mk1 (shut_bool Try.underlying4 _), (trodAll_cons_mk (Below.trod laidOut (by kernel_rfl) (of_decide_eq_true (by kernel_rfl)) k0 bel lt0) trodAll_mk0), rfl, bel.frame _, fun h => by cases h⟩

theorem over : Rows.tableAllRow.holds Try.pinned (OpenSpec.ofChange Rows.tableAllSpec) :=
  OpenClaim.holds_of_wide 3 Try.f3 rfl rfl rfl rfl rfl rfl rfl ⟨rfl, rfl, rfl, rfl, rfl⟩ rfl rfl rfl rfl rfl (by kernel_rfl) Try.func3 (by kernel_rfl)
    (of_decide_eq_true (by kernel_rfl)) (by unfold Func.isWrapper; first | (rw [if_pos (by decide +kernel)]; kernel_rfl) | (rw [if_neg (by decide +kernel)]; exact ⟨rfl, rfl⟩))
    (fun os started H enc _ => lifted os started H enc)

theorem proved : Rows.TableAllSaid := over
end Go.Proofs.Ytbmldiklgkojnaa.lawTableAll
