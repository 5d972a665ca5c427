/- Who has how much, and answered which probe: what most have, what most answered: for all numbers and operations; no condition. -/
import Derived.Test.YtimffflhfaiakaaQnS
import Derived.Test.YtimffflhfaiakaaLawQuorumRise
namespace Go.Proofs.Ytimffflhfaiakaa.lawQuorumAll
open Go.ChangeShapes Go.WideShapes Go.ChangeAt Go.RowKit
open lawQuorumRise (Rz)
set_option linter.unusedVariables false

theorem hz_set {T id : Nat} {H : List Int} {v : Int} (h : ∀ i : Nat, hasT T (i : Int) = false → H.getD i 0 = 0) (hid : hasT T (id : Int) = true) (hl : id < H.length) : ∀ i : Nat, hasT T (i : Int) = false → (H.set id v).getD i 0 = 0 := by
  intro i hi
  rw [getD_set hl, if_neg]
  · exact h i hi
  · rintro rfl
    rw [hid] at hi; cases hi
theorem hz_ack {T id : Nat} {P : List Int} {pr last : Int} (h : ∀ i : Nat, hasT T (i : Int) = false → P.getD i 0 = 0) (hid : hasT T (id : Int) = true) (hl : id < P.length) : ∀ i : Nat, hasT T (i : Int) = false → (ackP P id pr last).getD i 0 = 0 := by
  unfold ackP
  split
  · exact hz_set h hid hl
  · exact h

set_option maxRecDepth 100000 in
set_option maxHeartbeats 16000000 in
theorem walk (n mem me : Int) (v : Value) (l : List Opq) (w : World) (hn : I64 n) (hmm : I64 mem) (hmi : I64 me) (hr : rdS 4 cOpq w v l) (_ : True) :
    Calls Try.prog 9 #[.int .i64 n, .int .i64 mem, .int .i64 me, v] w fun e w' => e = .returned (.bool true) ∧ Below w.heap.size w w' := by
  obtain ⟨a, cap, rfl, hmx, hM, ha⟩ := hr
  unfold maxLen at hM
  replace ha := Lib.hid ha
  clear hn hmm hmi
  go_enter Try.func9, Try.ntmps9
  go_wp2_with fail
  refine (b21_any _).mono ?_
  rintro r w1 ⟨rfl, hb1⟩
  replace hb1 := Lib.hid hb1
  cases hm : mostT mem n
  · replace hm := Lib.hid hm
    go_wp2_with fail
    refine (qNew_no n mem me _ hm.out).mono ?_
    rintro r w2 ⟨rfl, rfl⟩
    go_wp2_with fail
    refine (rmost_any mem n _).mono ?_
    rintro r w2 ⟨rfl, hb2⟩
    rw [hm.out]
    have hB2 := hb1.out.trans (hb2.mono hb1.out.size)
    go_wp2
    go_ret
    exact ⟨rfl, hB2⟩
  obtain ⟨T, rfl⟩ : ∃ T : Nat, mem = T := by
    have h := hm
    simp only [mostT, Bool.and_eq_true] at h
    have := mayT_lt h.1
    exact ⟨mem.toNat, by omega⟩
  obtain ⟨n, rfl⟩ : ∃ N : Nat, n = N := by
    have := mostT_has hm
    exact ⟨n.toNat, by omega⟩
  obtain ⟨hn3, hn7, hT, hmost, _⟩ := mostT_has hm
  cases hme : hasT (T : Int).toNat me
  · replace hm := Lib.hid hm
    replace hme := Lib.hid hme
    go_wp2_with fail
    refine (qNew_no2 n T me _ hm.out hme.out).mono ?_
    rintro r w2 ⟨rfl, rfl⟩
    go_wp2_with fail
    refine (rmost_any T n _).mono ?_
    rintro r w2 ⟨rfl, hb2⟩
    rw [hm.out]
    have hB2 := Lib.hid (hb1.out.trans (hb2.mono hb1.out.size))
    clear hb2
    go_wp2_with fail
    refine (rhas_any T me _ (by omega)).mono ?_
    rintro r w3 ⟨rfl, hb3⟩
    rw [hme.out]
    have hB3 := hB2.out.trans (hb3.mono hB2.out.size)
    go_wp2
    go_ret
    exact ⟨rfl, hB3⟩
  have hmr : 1 ≤ me ∧ me ≤ 7 := has_range hme
  obtain ⟨m, rfl⟩ : ∃ m : Nat, me = m := ⟨me.toNat, by omega⟩
  replace hm := Lib.hid hm
  replace hme := Lib.hid hme
  go_wp2_with fail
  refine (qNew_ok n T m _ hm.out hme.out).mono ?_
  rintro r w2 ⟨rfl, hq2, hb2⟩
  have hB2 := Lib.hid (hb1.out.trans (hb2.mono hb1.out.size))
  obtain ⟨b, hb⟩ : ∃ b, b = w1.heap.size := ⟨_, rfl⟩
  rw [← hb] at hq2 ⊢
  have hwb : w.heap.size ≤ b := by have := hb1.out.size; omega
  have hbl2 := at_lt hq2.1
  replace hb := Lib.hid hb
  replace hq2 := Lib.hid hq2
  clear hb2 hb1
  go_wp2_with fail
  refine (rmost_any T n _).mono ?_
  rintro r w3 ⟨rfl, hb3⟩
  rw [hm.out]
  have hB3 := Lib.hid (hB2.out.trans (hb3.mono hB2.out.size))
  have hq3 := Lib.hid (hq2.out.below hb3)
  have hs3 := hb3.size
  clear hb3 hB2 hq2
  go_wp2_with fail
  refine (rhas_any T m _ (by omega)).mono ?_
  rintro r w4 ⟨rfl, hb4⟩
  rw [hme.out]
  have hB4 := Lib.hid (hB3.out.trans (hb4.mono hB3.out.size))
  have hq4 := Lib.hid (hq3.out.below hb4)
  have hs4 := hb4.size
  clear hb4 hB3 hq3
  go_upto_region 8 with (fail)
  obtain ⟨w5, hw5⟩ : ∃ W, W = w4.alloc (.cells #[.int .i64 n, .int .i64 T, .int .i64 m, .int .i64 0, .int .i64 0, .int .i64 0, .int .i64 0, .int .i64 0, .int .i64 0, .int .i64 0, .int .i64 0, .int .i64 0, .int .i64 0, .int .i64 0, .int .i64 0, .int .i64 0, .int .i64 0, .int .i64 0, .int .i64 0, .int .i64 0] 54) := ⟨_, rfl⟩
  rw [← hw5]
  have hb5 : Below w4.heap.size w4 w5 := hw5 ▸ (Below.refl _ _).alloc (Nat.le_refl _) _
  have hr5 : rO w5 w4.heap.size n T m z8 z8 0 := ⟨hw5 ▸ at_new _ _, rfl, rfl⟩
  obtain ⟨b2, hb2⟩ : ∃ b2, b2 = w4.heap.size := ⟨_, rfl⟩
  rw [← hb2] at hr5 ⊢
  have hbb : b < b2 := by omega
  have hB5 := Lib.hid (hB4.out.trans (hb5.mono hB4.out.size))
  have hq5 := Lib.hid (hq4.out.below hb5)
  have hbl5 := at_lt hr5.1
  replace hr5 := Lib.hid hr5
  replace hb2 := Lib.hid hb2
  clear hw5 hb5 hB4 hq4
  go_wp2
  go_loopw [12] (fun i wr => ∃ (k : Nat) (H P : List Int) (last : Int), k ≤ l.length ∧ k ≤ 60 ∧ i = .int .i64 k ∧ qO wr b n T m H P last ∧ rO wr b2 n T m H P last ∧ Rz H P last k ∧ (∀ i : Nat, hasT T (i : Int) = false → H.getD i 0 = 0) ∧ (∀ i : Nat, hasT T (i : Int) = false → P.getD i 0 = 0) ∧ Below w.heap.size w wr) (fun i _ => l.length - (intOf i).toNat)
  case atStart => exact ⟨0, z8, z8, 0, Nat.zero_le _, Nat.zero_le _, rfl, hq5.out, hr5.out, ⟨fun i => by rw [z8_get]; exact Int.le_refl _, fun i => by rw [z8_get]; exact Int.le_refl _, fun i => by rw [z8_get]; exact Int.le_refl _, Int.le_refl _, Int.le_refl _⟩, fun i _ => z8_get i, fun i _ => z8_get i, hB5.out⟩
  case round =>
    obtain ⟨k, H, P, last, hk, hk60, rfl, hq, hr, hR, hzH, hzP, hbel⟩ := hrel
    clear hq5 hr5 hB5
    by_cases hlt : k < l.length
    · by_cases hlt60 : k < 60
      · obtain ⟨wo, rfl⟩ : ∃ x, x = wr := ⟨_, rfl⟩
        obtain ⟨g, off, rfl, hc⟩ := ha.out (by omega)
        have hck := cOpq.grow _ _ _ _ _ (hc k hlt) hbel
        clear hc
        generalize l[k] = x at hck
        obtain ⟨kd, id, hv, pr⟩ := x
        obtain ⟨c0, c1, c2, c3, c4, c5, c6⟩ := hck
        dsimp only at c0 c1 c2 c3 c4 c5 c6
        obtain ⟨w6, hw6⟩ : ∃ W, W = wo.alloc (.cells #[.int .i64 kd, .int .i64 id, .int .i64 hv, .int .i64 pr] 56) := ⟨_, rfl⟩
        have hb6 : Below wo.heap.size wo w6 := hw6 ▸ (Below.refl _ _).alloc (Nat.le_refl _) _
        have hx6 : w6.heap[wo.heap.size]? = some (.cells #[.int .i64 kd, .int .i64 id, .int .i64 hv, .int .i64 pr] 56 (0, 0)) := hw6 ▸ at_new _ _
        have hbo := at_lt hq.1
        have hb2o := at_lt hr.1
        obtain ⟨nx, hnx⟩ : ∃ nx, nx = wo.heap.size := ⟨_, rfl⟩
        rw [← hnx] at hx6
        have hxb : ¬ nx = b := by omega
        have hxb2 : ¬ nx = b2 := by omega
        have hq6 := Lib.hid (hq.below hb6)
        have hr6 := Lib.hid (hr.below hb6)
        have hB6 := Lib.hid (hbel.trans (hb6.mono hbel.size))
        have f0 := cell_at hx6 0
        have f1 := cell_at hx6 1
        have f2 := cell_at hx6 2
        have f3 := cell_at hx6 3
        simp only [List.getElem?_toArray, List.getElem?_cons_zero, List.getElem?_cons_succ] at f0 f1 f2 f3
        have hnl := at_lt hx6
        have hHl := hq.2.1
        have hPl := hq.2.2
        have hl0' := hR.l0
        have hlk := hR.lk
        replace hx6 := Lib.hid hx6
        replace hnx := Lib.hid hnx
        replace hzH := Lib.hid hzH
        replace hzP := Lib.hid hzP
        clear hb6 hq hr hbel hbo hb2o
        go_upto_region 12 with (fail)
        rw [← hw6, ← hnx.out]
        clear hw6 c0 c1 c2 c3
        by_cases hkd : kd = 0
        · subst hkd
          have u1 := upF_cell (F := fun j => j = b ∨ j = b2) (show ¬ (nx = b ∨ nx = b2) by omega) f1
          have u2 := upF_cell (F := fun j => j = b ∨ j = b2) (show ¬ (nx = b ∨ nx = b2) by omega) f2
          have u3 := upF_cell (F := fun j => j = b ∨ j = b2) (show ¬ (nx = b ∨ nx = b2) by omega) f3
          go_upto_region 13 with (fail)
          cases hok : (hasT (T : Int).toNat id && decide (0 ≤ hv) && decide (hv ≤ 60))
          · replace hok := Lib.hid hok
            replace hR := Lib.hid hR
            refine wp_region_pc (fun j => j = b ∨ j = b2) w6 (.q 0 (.q 1 (.q 2 (.q 3 (.q 4 (.q 5 (.q 6 (.q 8 (.q 9 (.q 10 (.q 11 (.q 12 (.q 13 (.q 14 (.l 7 (.l 15 (.q 16 .fin))))))))))))))))) (by kernel_rfl) (by kernel_rfl) (Chg.refl _ _) ?_
            intro y0 hheap hy0 hyF
            clear hheap
            iterate 14 (refine pc_q rfl ?_; go_big_quiet_step (fail); refine wpQuiet_nil ?_)
            clear u1 u2 u3 f0 f1 f2 f3
            refine pc_l rfl (by kernel_rfl) ?_
            intro K hK
            go_simp
            refine (qAck_no b n T m H P last id hv pr _ (hq6.out.below hy0) (by omega) hok.out).mono ?_
            rintro r y1 ⟨rfl, rfl⟩
            refine hK _ _ hyF ?_
            clear hK K
            refine pc_l rfl (by kernel_rfl) ?_
            intro K hK
            go_simp
            refine (r19Ack_no b2 n T m H P last id hv pr _ (hr6.out.below hy0) (by omega) hok.out).mono ?_
            rintro r w7 ⟨rfl, hb7⟩
            refine hK _ _ (hyF.on hb7) ?_
            clear hK K
            have hq7 := Lib.hid ((hq6.out.below hy0).below hb7)
            have hr7 := Lib.hid ((hr6.out.below hy0).below hb7)
            have hB7 := Lib.hid (hB6.out.trans ((hy0.trans (hb7.mono hy0.size)).mono hB6.out.size))
            have hR7 : Hid (Rz H P last (k + 1)) := Lib.hid ⟨hR.out.h0, hR.out.p0, hR.out.pl, hR.out.l0, by have := hR.out.lk; omega⟩
            have hz1 := hzH
            have hz2 := hzP
            refine pc_q rfl ?_
            go_big_quiet_step (fail)
            refine wpQuiet_nil ?_
            refine pc_fin ?_
            clear hy0 hyF hb7 hq6 hr6 hB6 hok hR hzH hzP
            have hmH := Lib.hid (refB_med hm.out hq7.out.2.1 hR7.out.h0 hz1.out)
            have hmP := Lib.hid (refB_med hm.out hq7.out.2.2 hR7.out.p0 hz2.out)
            obtain ⟨c1, hc1⟩ : ∃ c, medS H n = c := ⟨_, rfl⟩
            obtain ⟨c2, hc2⟩ : ∃ c, medS P n = c := ⟨_, rfl⟩
            rw [hc1] at hmH
            rw [hc2] at hmP
            replace hc1 := Lib.hid hc1
            replace hc2 := Lib.hid hc2
            have HC : Hid (∀ x, Calls Try.prog 31 #[.pointer (some ⟨b, 0, none⟩)] (upTo w7 x) fun r w' => r = .returned (.int .i64 c1) ∧ ∃ z, w' = upTo w7 z) := Lib.hid fun x => by
              have := qCommit_any b n T m H P last (upTo w7 x) (hq7.out.below (upTo_below w7 x)) (by omega) (by omega)
              rw [Int.toNat_natCast, hc1.out] at this
              exact call_up this
            have HP : Hid (∀ x, Calls Try.prog 33 #[.pointer (some ⟨b, 0, none⟩)] (upTo w7 x) fun r w' => r = .returned (.int .i64 c2) ∧ ∃ z, w' = upTo w7 z) := Lib.hid fun x => by
              have := qProbe_any b n T m H P last (upTo w7 x) (hq7.out.below (upTo_below w7 x)) (by omega) (by omega)
              rw [Int.toNat_natCast, hc2.out] at this
              exact call_up this
            have HrC : Hid (∀ x, Calls Try.prog 32 #[.pointer (some ⟨b2, 0, none⟩)] (upTo w7 x) fun r w' => r = .returned (.int .i64 c1) ∧ ∃ z, w' = upTo w7 z) := Lib.hid fun x => by
              have := r19Commit_any b2 T n m H P last (upTo w7 x) (hr7.out.below (upTo_below w7 x)) hT (by omega)
              rw [hmH.out] at this
              exact call_up this
            have HrP : Hid (∀ x, Calls Try.prog 34 #[.pointer (some ⟨b2, 0, none⟩)] (upTo w7 x) fun r w' => r = .returned (.int .i64 c2) ∧ ∃ z, w' = upTo w7 z) := Lib.hid fun x => by
              have := r19Probe_any b2 T n m H P last (upTo w7 x) (hr7.out.below (upTo_below w7 x)) hT (by omega)
              rw [hmP.out] at this
              exact call_up this
            have HL : Hid (∀ x, Calls Try.prog 35 #[.pointer (some ⟨b, 0, none⟩)] (upTo w7 x) fun r w' => r = .returned (.int .i64 last) ∧ ∃ z, w' = upTo w7 z) := Lib.hid fun x =>
              call_up_eq (qLast_any b n T m H P last (upTo w7 x) (hq7.out.below (upTo_below w7 x)))
            have e19 := cell_at hr7.out.1 19
            rw [qC_last hr7.out.2.1 hr7.out.2.2] at e19
            have u19 := upTo_cell e19
            clear e19
            go_upto_region 17 with (fail)
            refine wp_region_up (by kernel_rfl) (by kernel_rfl) ?_
            repeat (go_big_quiet_step ((first | (go_at_call 31; exact HC.out _) | (go_at_call 32; exact HrC.out _) | (go_at_call 33; exact HP.out _) | (go_at_call 34; exact HrP.out _) | (go_at_call 35; exact HL.out _))))
            refine wpQuiet_nil ?_
            intro w9 hw9
            have hb9 := up_below hw9
            have hq9 := Lib.hid (hq7.out.below hb9)
            have hr9 := Lib.hid (hr7.out.below hb9)
            have hB9 := Lib.hid (hB7.out.trans (hb9.mono hB7.out.size))
            clear hw9 hb9 u19 HC HP HrC HrP HL hq7 hr7 hB7 hmH hmP hc1 hc2
            go_wp2
            go_loopw [14] (fun i wx => ∃ j : Nat, j ≤ 9 ∧ i = .int .i64 j ∧ w9 = wx) (fun i _ => 9 - (intOf i).toNat)
            case atStart => exact ⟨0, by omega, rfl, rfl⟩
            case round =>
              obtain ⟨j, hj, rfl, rfl⟩ := hrel
              by_cases hj9 : j < 9
              · by_cases hj0 : j = 0
                · subst hj0
                  have hno : Hid (hasT (T : Int).toNat ((0 : Nat) : Int) = false) := Lib.hid (by rw [Int.toNat_natCast]; exact hasT_out _ (by omega))
                  go_wp2_with fail
                  refine (qHave_no b n T m H P last _ _ hq9.out (by omega) hno.out).mono ?_
                  rintro r wz ⟨rfl, rfl⟩
                  go_wp2
                  go_roundw
                  case rel => exact ⟨1, by omega, by go_num, by trivial⟩
                  case measure => simp [intOf]
                by_cases hj8 : j = 8
                · subst hj8
                  have hno : Hid (hasT (T : Int).toNat ((8 : Nat) : Int) = false) := Lib.hid (by rw [Int.toNat_natCast]; exact hasT_out _ (by omega))
                  go_wp2_with fail
                  refine (qHave_no b n T m H P last _ _ hq9.out (by omega) hno.out).mono ?_
                  rintro r wz ⟨rfl, rfl⟩
                  go_wp2
                  go_roundw
                  case rel => exact ⟨9, by omega, by go_num, by trivial⟩
                  case measure => simp [intOf]
                have hj1 : 1 ≤ j := by omega
                have hj7 : j ≤ 7 := by omega
                have hj8' : j < 8 := by omega
                have e3 := cell_at hr9.out.1 (3 + j)
                rw [qC_H hr9.out.2.1 hr9.out.2.2 (by omega)] at e3
                have hbl := at_lt hr9.out.1
                cases hh : hasT T (j : Int)
                · rw [hz1.out j hh] at e3
                  have hno : Hid (hasT (T : Int).toNat (j : Int) = false) := Lib.hid (by rw [Int.toNat_natCast]; exact hh)
                  replace hh := Lib.hid hh
                  go_wp2_with fail
                  refine (qHave_no b n T m H P last _ _ hq9.out (by omega) hno.out).mono ?_
                  rintro r wz ⟨rfl, rfl⟩
                  go_wp2
                  go_roundw
                  case rel => exact ⟨j + 1, by omega, by go_num, by trivial⟩
                  case measure => simp [intOf]; omega
                · have hys : Hid (hasT (T : Int).toNat (j : Int) = true) := Lib.hid (by rw [Int.toNat_natCast]; exact hh)
                  replace hh := Lib.hid hh
                  obtain ⟨x, hx⟩ : ∃ x, H.getD j 0 = x := ⟨_, rfl⟩
                  rw [hx] at e3
                  replace hx := Lib.hid hx
                  go_wp2_with fail
                  refine (qHave_yes b n T m H P last j _ hq9.out (by omega) hys.out hj7).mono ?_
                  rintro r wz ⟨rfl, rfl⟩
                  rw [hx.out]
                  go_wp2
                  go_roundw
                  case rel => exact ⟨j + 1, by omega, by go_num, by trivial⟩
                  case measure => simp [intOf]; omega
              · clear hj
                go_wp2
                go_roundw
                case rel => exact ⟨k + 1, H, P, last, by omega, by omega, by go_num, hq9.out, hr9.out, hR7.out, hz1.out, hz2.out, hB9.out⟩
                case measure => simp [intOf]; omega
          · simp only [Bool.and_eq_true, decide_eq_true_eq] at hok
            obtain ⟨⟨hid, hv0⟩, hv60⟩ := hok
            have hidT := hid
            rw [Int.toNat_natCast] at hidT
            obtain ⟨hi1, hi7⟩ := has_range hidT
            obtain ⟨j, rfl⟩ : ∃ j : Nat, id = j := ⟨id.toNat, by omega⟩
            have hz1 := Lib.hid (hz_set (v := max (H.getD j 0) hv) hzH.out hidT (show j < H.length by omega))
            have hz2 := Lib.hid (hz_ack (pr := pr) (last := last) hzP.out hidT (show j < P.length by omega))
            have hR7 := Lib.hid (Rz.ack (hv := hv) (pr := pr) hR hHl hPl (show j ≤ 7 by omega)).1
            replace hid := Lib.hid hid
            replace hidT := Lib.hid hidT
            refine wp_region_pc (fun j => j = b ∨ j = b2) w6 (.q 0 (.q 1 (.q 2 (.q 3 (.q 4 (.q 5 (.q 6 (.q 8 (.q 9 (.q 10 (.q 11 (.q 12 (.q 13 (.q 14 (.l 7 (.l 15 (.q 16 .fin))))))))))))))))) (by kernel_rfl) (by kernel_rfl) (Chg.refl _ _) ?_
            intro y0 hheap hy0 hyF
            clear hheap
            iterate 14 (refine pc_q rfl ?_; go_big_quiet_step (fail); refine wpQuiet_nil ?_)
            clear u1 u2 u3 f0 f1 f2 f3
            refine pc_l rfl (by kernel_rfl) ?_
            intro K hK
            go_simp
            refine (qAck_yes b n T m H P last j hv pr _ (hq6.out.below hy0) (by omega) hid.out (by omega) (by omega) hv0 hv60).mono ?_
            rintro r y1 ⟨rfl, hq7, hc7⟩
            have hy1 := hyF.more hc7 (fun i hi => .inl (.inl hi))
            have hr7' := (hr6.out.below hy0).chg hc7 (fun e => by have : b2 = b := e; omega)
            refine hK _ _ hy1 ?_
            clear hK K
            refine pc_l rfl (by kernel_rfl) ?_
            intro K hK
            go_simp
            refine (r19Ack_yes b2 n T m H P last j hv pr _ hr7' (by omega) hid.out (by omega) (by omega) hv0 hv60).mono ?_
            rintro r w7 ⟨rfl, hr7, hc8⟩
            have hy2 := hy1.more hc8 (fun i hi => .inl (.inr hi))
            refine hK _ _ hy2 ?_
            clear hK K
            replace hq7 := Lib.hid (hq7.chg hc8 (fun e => by have : b = b2 := e; omega))
            replace hr7 := Lib.hid hr7
            have hB7 := Lib.hid (hB6.out.trans (hy2.below hB6.out.size fun i hi => by rcases hi with rfl | rfl <;> omega))
            refine pc_q rfl ?_
            go_big_quiet_step (fail)
            refine wpQuiet_nil ?_
            refine pc_fin ?_
            generalize H.set j (max (H.getD j 0) hv) = H1 at hq7 hr7 hz1 hR7
            generalize ackP P j pr last = P1 at hq7 hr7 hz2 hR7
            clear hy0 hyF hy1 hy2 hc7 hc8 hr7' hq6 hr6 hB6 hid hidT hR hzH hzP hHl hPl
            have hmH := Lib.hid (refB_med hm.out hq7.out.2.1 hR7.out.h0 hz1.out)
            have hmP := Lib.hid (refB_med hm.out hq7.out.2.2 hR7.out.p0 hz2.out)
            obtain ⟨c1, hc1⟩ : ∃ c, medS H1 n = c := ⟨_, rfl⟩
            obtain ⟨c2, hc2⟩ : ∃ c, medS P1 n = c := ⟨_, rfl⟩
            rw [hc1] at hmH
            rw [hc2] at hmP
            replace hc1 := Lib.hid hc1
            replace hc2 := Lib.hid hc2
            have HC : Hid (∀ x, Calls Try.prog 31 #[.pointer (some ⟨b, 0, none⟩)] (upTo w7 x) fun r w' => r = .returned (.int .i64 c1) ∧ ∃ z, w' = upTo w7 z) := Lib.hid fun x => by
              have := qCommit_any b n T m H1 P1 last (upTo w7 x) (hq7.out.below (upTo_below w7 x)) (by omega) (by omega)
              rw [Int.toNat_natCast, hc1.out] at this
              exact call_up this
            have HP : Hid (∀ x, Calls Try.prog 33 #[.pointer (some ⟨b, 0, none⟩)] (upTo w7 x) fun r w' => r = .returned (.int .i64 c2) ∧ ∃ z, w' = upTo w7 z) := Lib.hid fun x => by
              have := qProbe_any b n T m H1 P1 last (upTo w7 x) (hq7.out.below (upTo_below w7 x)) (by omega) (by omega)
              rw [Int.toNat_natCast, hc2.out] at this
              exact call_up this
            have HrC : Hid (∀ x, Calls Try.prog 32 #[.pointer (some ⟨b2, 0, none⟩)] (upTo w7 x) fun r w' => r = .returned (.int .i64 c1) ∧ ∃ z, w' = upTo w7 z) := Lib.hid fun x => by
              have := r19Commit_any b2 T n m H1 P1 last (upTo w7 x) (hr7.out.below (upTo_below w7 x)) hT (by omega)
              rw [hmH.out] at this
              exact call_up this
            have HrP : Hid (∀ x, Calls Try.prog 34 #[.pointer (some ⟨b2, 0, none⟩)] (upTo w7 x) fun r w' => r = .returned (.int .i64 c2) ∧ ∃ z, w' = upTo w7 z) := Lib.hid fun x => by
              have := r19Probe_any b2 T n m H1 P1 last (upTo w7 x) (hr7.out.below (upTo_below w7 x)) hT (by omega)
              rw [hmP.out] at this
              exact call_up this
            have HL : Hid (∀ x, Calls Try.prog 35 #[.pointer (some ⟨b, 0, none⟩)] (upTo w7 x) fun r w' => r = .returned (.int .i64 last) ∧ ∃ z, w' = upTo w7 z) := Lib.hid fun x =>
              call_up_eq (qLast_any b n T m H1 P1 last (upTo w7 x) (hq7.out.below (upTo_below w7 x)))
            have e19 := cell_at hr7.out.1 19
            rw [qC_last hr7.out.2.1 hr7.out.2.2] at e19
            have u19 := upTo_cell e19
            clear e19
            go_upto_region 17 with (fail)
            refine wp_region_up (by kernel_rfl) (by kernel_rfl) ?_
            repeat (go_big_quiet_step ((first | (go_at_call 31; exact HC.out _) | (go_at_call 32; exact HrC.out _) | (go_at_call 33; exact HP.out _) | (go_at_call 34; exact HrP.out _) | (go_at_call 35; exact HL.out _))))
            refine wpQuiet_nil ?_
            intro w9 hw9
            have hb9 := up_below hw9
            have hq9 := Lib.hid (hq7.out.below hb9)
            have hr9 := Lib.hid (hr7.out.below hb9)
            have hB9 := Lib.hid (hB7.out.trans (hb9.mono hB7.out.size))
            clear hw9 hb9 u19 HC HP HrC HrP HL hq7 hr7 hB7 hmH hmP hc1 hc2
            go_wp2
            go_loopw [14] (fun i wx => ∃ j : Nat, j ≤ 9 ∧ i = .int .i64 j ∧ w9 = wx) (fun i _ => 9 - (intOf i).toNat)
            case atStart => exact ⟨0, by omega, rfl, rfl⟩
            case round =>
              obtain ⟨j, hj, rfl, rfl⟩ := hrel
              by_cases hj9 : j < 9
              · by_cases hj0 : j = 0
                · subst hj0
                  have hno : Hid (hasT (T : Int).toNat ((0 : Nat) : Int) = false) := Lib.hid (by rw [Int.toNat_natCast]; exact hasT_out _ (by omega))
                  go_wp2_with fail
                  refine (qHave_no b n T m H1 P1 last _ _ hq9.out (by omega) hno.out).mono ?_
                  rintro r wz ⟨rfl, rfl⟩
                  go_wp2
                  go_roundw
                  case rel => exact ⟨1, by omega, by go_num, by trivial⟩
                  case measure => simp [intOf]
                by_cases hj8 : j = 8
                · subst hj8
                  have hno : Hid (hasT (T : Int).toNat ((8 : Nat) : Int) = false) := Lib.hid (by rw [Int.toNat_natCast]; exact hasT_out _ (by omega))
                  go_wp2_with fail
                  refine (qHave_no b n T m H1 P1 last _ _ hq9.out (by omega) hno.out).mono ?_
                  rintro r wz ⟨rfl, rfl⟩
                  go_wp2
                  go_roundw
                  case rel => exact ⟨9, by omega, by go_num, by trivial⟩
                  case measure => simp [intOf]
                have hj1 : 1 ≤ j := by omega
                have hj7 : j ≤ 7 := by omega
                have hj8' : j < 8 := by omega
                have e3 := cell_at hr9.out.1 (3 + j)
                rw [qC_H hr9.out.2.1 hr9.out.2.2 (by omega)] at e3
                have hbl := at_lt hr9.out.1
                cases hh : hasT T (j : Int)
                · rw [hz1.out j hh] at e3
                  have hno : Hid (hasT (T : Int).toNat (j : Int) = false) := Lib.hid (by rw [Int.toNat_natCast]; exact hh)
                  replace hh := Lib.hid hh
                  go_wp2_with fail
                  refine (qHave_no b n T m H1 P1 last _ _ hq9.out (by omega) hno.out).mono ?_
                  rintro r wz ⟨rfl, rfl⟩
                  go_wp2
                  go_roundw
                  case rel => exact ⟨j + 1, by omega, by go_num, by trivial⟩
                  case measure => simp [intOf]; omega
                · have hys : Hid (hasT (T : Int).toNat (j : Int) = true) := Lib.hid (by rw [Int.toNat_natCast]; exact hh)
                  replace hh := Lib.hid hh
                  obtain ⟨x, hx⟩ : ∃ x, H1.getD j 0 = x := ⟨_, rfl⟩
                  rw [hx] at e3
                  replace hx := Lib.hid hx
                  go_wp2_with fail
                  refine (qHave_yes b n T m H1 P1 last j _ hq9.out (by omega) hys.out hj7).mono ?_
                  rintro r wz ⟨rfl, rfl⟩
                  rw [hx.out]
                  go_wp2
                  go_roundw
                  case rel => exact ⟨j + 1, by omega, by go_num, by trivial⟩
                  case measure => simp [intOf]; omega
              · clear hj
                go_wp2
                go_roundw
                case rel => exact ⟨k + 1, H1, P1, last, by omega, by omega, by go_num, hq9.out, hr9.out, hR7.out, hz1.out, hz2.out, hB9.out⟩
                case measure => simp [intOf]; omega
        · have d : (kd == 0) = false := by simpa using hkd
          have hz1 := hzH
          have hmT : hasT T (m : Int) = true := by have := hme.out; rw [Int.toNat_natCast] at this; exact this
          have hz2 := Lib.hid (hz_set (v := last + 1) hzP.out hmT (show m < P.length by omega))
          have hR7 := Lib.hid (Rz.next hR hPl (show m ≤ 7 by omega)).1
          replace hR := Lib.hid hR
          replace hmT := Lib.hid hmT
          go_wp2_with fail
          refine (qNext_any b n T m H P last m _ hq6.out rfl (by omega) hl0' (by omega)).mono ?_
          rintro r y1 ⟨rfl, hq7, hc7⟩
          have hr7' := Lib.hid (hr6.out.chg hc7 (fun e => by have : b2 = b := e; omega))
          have hB7' := Lib.hid (hB6.out.trans (hc7.below hB6.out.size fun i hi => by have : i = b := hi; omega))
          replace hq7 := Lib.hid hq7
          clear hc7 hq6 hr6 hB6 f0 f1 f2 f3
          go_wp2_with fail
          refine (r19Next_any b2 n T m H P last m _ hr7'.out rfl (by omega) hl0' (by omega)).mono ?_
          rintro r w7 ⟨rfl, hr7, hc8⟩
          replace hq7 := Lib.hid (hq7.out.chg hc8 (fun e => by have : b = b2 := e; omega))
          replace hr7 := Lib.hid hr7
          have hB7 := Lib.hid (hB7'.out.trans (hc8.below hB7'.out.size fun i hi => by have : i = b2 := hi; omega))
          generalize P.set m (last + 1) = P1 at hq7 hr7 hz2 hR7
          generalize last + 1 = l1 at hq7 hr7 hR7 ⊢
          clear hc8 hr7' hB7' hmT hR hzH hzP hHl hPl
          have hmH := Lib.hid (refB_med hm.out hq7.out.2.1 hR7.out.h0 hz1.out)
          have hmP := Lib.hid (refB_med hm.out hq7.out.2.2 hR7.out.p0 hz2.out)
          obtain ⟨c1, hc1⟩ : ∃ c, medS H n = c := ⟨_, rfl⟩
          obtain ⟨c2, hc2⟩ : ∃ c, medS P1 n = c := ⟨_, rfl⟩
          rw [hc1] at hmH
          rw [hc2] at hmP
          replace hc1 := Lib.hid hc1
          replace hc2 := Lib.hid hc2
          have HC : Hid (∀ x, Calls Try.prog 31 #[.pointer (some ⟨b, 0, none⟩)] (upTo w7 x) fun r w' => r = .returned (.int .i64 c1) ∧ ∃ z, w' = upTo w7 z) := Lib.hid fun x => by
            have := qCommit_any b n T m H P1 l1 (upTo w7 x) (hq7.out.below (upTo_below w7 x)) (by omega) (by omega)
            rw [Int.toNat_natCast, hc1.out] at this
            exact call_up this
          have HP : Hid (∀ x, Calls Try.prog 33 #[.pointer (some ⟨b, 0, none⟩)] (upTo w7 x) fun r w' => r = .returned (.int .i64 c2) ∧ ∃ z, w' = upTo w7 z) := Lib.hid fun x => by
            have := qProbe_any b n T m H P1 l1 (upTo w7 x) (hq7.out.below (upTo_below w7 x)) (by omega) (by omega)
            rw [Int.toNat_natCast, hc2.out] at this
            exact call_up this
          have HrC : Hid (∀ x, Calls Try.prog 32 #[.pointer (some ⟨b2, 0, none⟩)] (upTo w7 x) fun r w' => r = .returned (.int .i64 c1) ∧ ∃ z, w' = upTo w7 z) := Lib.hid fun x => by
            have := r19Commit_any b2 T n m H P1 l1 (upTo w7 x) (hr7.out.below (upTo_below w7 x)) hT (by omega)
            rw [hmH.out] at this
            exact call_up this
          have HrP : Hid (∀ x, Calls Try.prog 34 #[.pointer (some ⟨b2, 0, none⟩)] (upTo w7 x) fun r w' => r = .returned (.int .i64 c2) ∧ ∃ z, w' = upTo w7 z) := Lib.hid fun x => by
            have := r19Probe_any b2 T n m H P1 l1 (upTo w7 x) (hr7.out.below (upTo_below w7 x)) hT (by omega)
            rw [hmP.out] at this
            exact call_up this
          have HL : Hid (∀ x, Calls Try.prog 35 #[.pointer (some ⟨b, 0, none⟩)] (upTo w7 x) fun r w' => r = .returned (.int .i64 l1) ∧ ∃ z, w' = upTo w7 z) := Lib.hid fun x =>
            call_up_eq (qLast_any b n T m H P1 l1 (upTo w7 x) (hq7.out.below (upTo_below w7 x)))
          have e19 := cell_at hr7.out.1 19
          rw [qC_last hr7.out.2.1 hr7.out.2.2] at e19
          have u19 := upTo_cell e19
          clear e19
          go_upto_region 17 with (fail)
          refine wp_region_up (by kernel_rfl) (by kernel_rfl) ?_
          repeat (go_big_quiet_step ((first | (go_at_call 31; exact HC.out _) | (go_at_call 32; exact HrC.out _) | (go_at_call 33; exact HP.out _) | (go_at_call 34; exact HrP.out _) | (go_at_call 35; exact HL.out _))))
          refine wpQuiet_nil ?_
          intro w9 hw9
          have hb9 := up_below hw9
          have hq9 := Lib.hid (hq7.out.below hb9)
          have hr9 := Lib.hid (hr7.out.below hb9)
          have hB9 := Lib.hid (hB7.out.trans (hb9.mono hB7.out.size))
          clear hw9 hb9 u19 HC HP HrC HrP HL hq7 hr7 hB7 hmH hmP hc1 hc2
          go_wp2
          go_loopw [14] (fun i wx => ∃ j : Nat, j ≤ 9 ∧ i = .int .i64 j ∧ w9 = wx) (fun i _ => 9 - (intOf i).toNat)
          case atStart => exact ⟨0, by omega, rfl, rfl⟩
          case round =>
            obtain ⟨j, hj, rfl, rfl⟩ := hrel
            by_cases hj9 : j < 9
            · by_cases hj0 : j = 0
              · subst hj0
                have hno : Hid (hasT (T : Int).toNat ((0 : Nat) : Int) = false) := Lib.hid (by rw [Int.toNat_natCast]; exact hasT_out _ (by omega))
                go_wp2_with fail
                refine (qHave_no b n T m H P1 l1 _ _ hq9.out (by omega) hno.out).mono ?_
                rintro r wz ⟨rfl, rfl⟩
                go_wp2
                go_roundw
                case rel => exact ⟨1, by omega, by go_num, by trivial⟩
                case measure => simp [intOf]
              by_cases hj8 : j = 8
              · subst hj8
                have hno : Hid (hasT (T : Int).toNat ((8 : Nat) : Int) = false) := Lib.hid (by rw [Int.toNat_natCast]; exact hasT_out _ (by omega))
                go_wp2_with fail
                refine (qHave_no b n T m H P1 l1 _ _ hq9.out (by omega) hno.out).mono ?_
                rintro r wz ⟨rfl, rfl⟩
                go_wp2
                go_roundw
                case rel => exact ⟨9, by omega, by go_num, by trivial⟩
                case measure => simp [intOf]
              have hj1 : 1 ≤ j := by omega
              have hj7 : j ≤ 7 := by omega
              have hj8' : j < 8 := by omega
              have e3 := cell_at hr9.out.1 (3 + j)
              rw [qC_H hr9.out.2.1 hr9.out.2.2 (by omega)] at e3
              have hbl := at_lt hr9.out.1
              cases hh : hasT T (j : Int)
              · rw [hz1.out j hh] at e3
                have hno : Hid (hasT (T : Int).toNat (j : Int) = false) := Lib.hid (by rw [Int.toNat_natCast]; exact hh)
                replace hh := Lib.hid hh
                go_wp2_with fail
                refine (qHave_no b n T m H P1 l1 _ _ hq9.out (by omega) hno.out).mono ?_
                rintro r wz ⟨rfl, rfl⟩
                go_wp2
                go_roundw
                case rel => exact ⟨j + 1, by omega, by go_num, by trivial⟩
                case measure => simp [intOf]; omega
              · have hys : Hid (hasT (T : Int).toNat (j : Int) = true) := Lib.hid (by rw [Int.toNat_natCast]; exact hh)
                replace hh := Lib.hid hh
                obtain ⟨x, hx⟩ : ∃ x, H.getD j 0 = x := ⟨_, rfl⟩
                rw [hx] at e3
                replace hx := Lib.hid hx
                go_wp2_with fail
                refine (qHave_yes b n T m H P1 l1 j _ hq9.out (by omega) hys.out hj7).mono ?_
                rintro r wz ⟨rfl, rfl⟩
                rw [hx.out]
                go_wp2
                go_roundw
                case rel => exact ⟨j + 1, by omega, by go_num, by trivial⟩
                case measure => simp [intOf]; omega
            · clear hj
              go_wp2
              go_roundw
              case rel => exact ⟨k + 1, H, P1, l1, by omega, by omega, by go_num, hq9.out, hr9.out, hR7.out, hz1.out, hz2.out, hB9.out⟩
              case measure => simp [intOf]; omega
      · go_wp2
        go_ret
        exact ⟨rfl, hbel⟩
    · go_wp2
      go_ret
      exact ⟨rfl, hbel⟩

/-! the row's step, written out by law.py -/
set_option maxRecDepth 100000 in
theorem lifted (os : Os) (started : os.Started) (H : Type) (enc : TypeId × Value → H) :
    ReturnsInHanded {} Try.checked os 9 .any (Rows.quorumAllSpec.pre6 enc Try.prog Try.f9 Rows.quorumAllRow.domain false) (Rows.quorumAllSpec.post enc Try.prog Try.f9 false true false false) := by
  refine returnsInHanded_of_change (C := Try.checked) own started (by kernel_rfl) Try.func9
    (ChangeSpec.witness6 (enc := enc) (C := Try.checked) false ⟨#[], #[.int .i64 0, .int .i64 0, .int .i64 0, .slice none 0 0], []⟩ 8 (by kernel_rfl) (by kernel_rfl) (by kernel_rfl) (by kernel_rfl)) ?_
  intro W base args ds gs before hval0 hW hcnd _
  have hval : ∀ (j : Nat) t v, Try.f9.params[j]? = some t → args[j]? = some v → Value.okWide Try.prog W .any base t v := hval0
  have hW' := hW
  obtain ⟨p, q, hA0, hV, rfl, hfz, hnd⟩ := hW
  have hA : DataW.TrodAll enc Try.prog W 0 (fun _ => true) true Try.f9.params.toList args.toList ds p := hA0
  rw [Try.params9] at hA hval
  obtain ⟨v0, vs0, d0, ds0, p0, q0, hargs, rfl, rfl, h0, r0⟩ := trodAll_cons hA
  obtain ⟨v1, vs1, d1, ds1, p1, q1, rfl, rfl, rfl, h1, r1⟩ := trodAll_cons r0
  obtain ⟨v2, vs2, d2, ds2, p2, q2, rfl, rfl, rfl, h2, r2⟩ := trodAll_cons r1
  obtain ⟨v3, vs3, d3, ds3, p3, q3, rfl, rfl, rfl, h3, r3⟩ := trodAll_cons r2
  obtain ⟨rfl, rfl, rfl⟩ := trodAll_nil r3
  obtain rfl : args = #[v0, v1, v2, v3] := by cases args; simp_all
  obtain ⟨rfl, rfl⟩ := trodVars_none hV
  have k0 := h0
  have lt0 : ∀ x ∈ p0, x.block < W.heap.size := by obtain ⟨m, hm⟩ := k0; exact DataW.trod_lt m _ _ _ hm
  have k1 := h1
  have lt1 : ∀ x ∈ p1, x.block < W.heap.size := by obtain ⟨m, hm⟩ := k1; exact DataW.trod_lt m _ _ _ hm
  have k2 := h2
  have lt2 : ∀ x ∈ p2, x.block < W.heap.size := by obtain ⟨m, hm⟩ := k2; exact DataW.trod_lt m _ _ _ hm
  have k3 := h3
  have lt3 : ∀ x ∈ p3, x.block < W.heap.size := by obtain ⟨m, hm⟩ := k3; exact DataW.trod_lt m _ _ _ hm
  obtain ⟨a0, rfl, rfl, rfl, w0⟩ := open_int Try.underlying3 (hval 0 3 v0 rfl rfl) h0
  have w0 := bounds_i64 w0
  obtain ⟨a1, rfl, rfl, rfl, w1⟩ := open_int Try.underlying3 (hval 1 3 v1 rfl rfl) h1
  have w1 := bounds_i64 w1
  obtain ⟨a2, rfl, rfl, rfl, w2⟩ := open_int Try.underlying3 (hval 2 3 v2 rfl rfl) h2
  have w2 := bounds_i64 w2
  obtain ⟨l3, w3, b3⟩ := slop21_open (hval 3 45 v3 rfl rfl) h3
  clear hA0 hval0
  simp only [List.append_nil] at hW'
  refine (walk a0 a1 a2 v3 l3 W w0 w1 w2 w3 b3).mono fun e W' ⟨he, bel⟩ => ?_
  subst he
  exact ⟨_, rfl, _, _, _, [], _, [], hW', trodAll_mk1 (shut_bool Try.underlying4 _), (trodAll_cons_mk (Below.trod laidOut (by kernel_rfl) (of_decide_eq_true (by kernel_rfl)) k0 bel lt0) (trodAll_cons_mk (Below.trod laidOut (by kernel_rfl) (of_decide_eq_true (by kernel_rfl)) k1 bel lt1) (trodAll_cons_mk (Below.trod laidOut (by kernel_rfl) (of_decide_eq_true (by kernel_rfl)) k2 bel lt2) (trodAll_cons_mk (Below.trod laidOut (by kernel_rfl) (of_decide_eq_true (by kernel_rfl)) k3 bel lt3) trodAll_mk0)))), rfl, bel.frame _, fun h => by cases h⟩

theorem over : Rows.quorumAllRow.holds Try.pinned (OpenSpec.ofChange Rows.quorumAllSpec) :=
  OpenClaim.holds_of_wide 9 Try.f9 rfl rfl rfl rfl rfl rfl rfl ⟨rfl, rfl, rfl, rfl, rfl⟩ rfl rfl rfl rfl rfl (by kernel_rfl) Try.func9 (by kernel_rfl)
    (of_decide_eq_true (by kernel_rfl)) (by unfold Func.isWrapper; first | (rw [if_pos (by decide +kernel)]; kernel_rfl) | (rw [if_neg (by decide +kernel)]; exact ⟨rfl, rfl⟩))
    (fun os started H enc _ => lifted os started H enc)

theorem proved : Rows.QuorumAllSaid := over
end Go.Proofs.Ytimffflhfaiakaa.lawQuorumAll

