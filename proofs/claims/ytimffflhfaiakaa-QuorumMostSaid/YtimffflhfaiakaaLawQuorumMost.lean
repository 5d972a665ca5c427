/- What stands fast is had by most, and nothing that is more is: for all numbers; no condition. -/
import Derived.Test.YtimffflhfaiakaaQnQ
import Derived.Test.YtimffflhfaiakaaTeamC
import Derived.Deep.OwnRows
namespace Go.Proofs.Ytimffflhfaiakaa.lawQuorumMost
open Go.ChangeShapes Go.WideShapes Go.ChangeAt Go.RowKit
set_option linter.unusedVariables false

set_option maxRecDepth 100000 in
set_option maxHeartbeats 8000000 in
theorem walk (n mem : Int) (v : Value) (l : List Int) (w : World) (hn : I64 n) (hmm : I64 mem) (hr : rdI w v l) (hI : ∀ x ∈ l, I64 x) :
    Calls Try.prog 10 #[.int .i64 n, .int .i64 mem, v] w fun e w' => e = .returned (.bool true) ∧ Below w.heap.size w w' := by
  obtain ⟨a, cap, rfl, hmx, hM, ha⟩ := hr
  unfold maxLen at hM
  replace ha := Lib.hid ha
  replace hI := Lib.hid hI
  clear hn hmm
  go_enter Try.func10, Try.ntmps10
  go_wp2_with fail
  refine (b21_any _).mono ?_
  rintro r w1 ⟨rfl, hb1⟩
  replace hb1 := Lib.hid hb1
  cases hm : mostT mem n
  · replace hm := Lib.hid hm
    go_wp2_with fail
    refine (rmost_any mem n _).mono ?_
    rintro r w2 ⟨rfl, hb2⟩
    rw [hm.out]
    have hB2 := hb1.out.trans (hb2.mono hb1.out.size)
    go_wp2
    go_ret
    exact ⟨rfl, hB2⟩
  obtain ⟨T, rfl⟩ : ∃ T : Nat, mem = T := by
    have h := hm
    simp only [mostT, Bool.and_eq_true] at h
    have := mayT_lt h.1
    exact ⟨mem.toNat, by omega⟩
  obtain ⟨n, rfl⟩ : ∃ N : Nat, n = N := by
    have := mostT_has hm
    exact ⟨n.toNat, by omega⟩
  have hmH := Lib.hid hm
  go_wp2_with fail
  refine (rmost_any T n _).mono ?_
  rintro r w2 ⟨rfl, hb2⟩
  rw [hmH.out]
  have hB2 := Lib.hid (hb1.out.trans (hb2.mono hb1.out.size))
  clear hb2 hb1 hmH
  obtain ⟨hn3, hn7, hT, hmost, _⟩ := mostT_has hm
  have hl0 := list_first hm
  have hLi : ∀ y ∈ listT T, hasT T y = true ∧ 1 ≤ y ∧ y ≤ 7 := fun y hy => list_has hy
  have hLn := listT_len T hT
  have hLd := listT_nodup hT
  replace hm := Lib.hid hm
  go_wp2_with fail
  refine (rlist_nat T _ hT).mono ?_
  rintro r w3 ⟨vL, rfl, hoL, hb3⟩
  have hB3 := Lib.hid (hB2.out.trans (hb3.mono hB2.out.size))
  obtain ⟨L, hL⟩ : ∃ L, listT T = L := ⟨_, rfl⟩
  rw [hL] at hoL hl0 hLi hLn hLd
  have hlen7 : L.length ≤ 7 := by rw [hLn]; exact lenT_le T
  obtain ⟨aL, cL, rfl, hm1, hM1, hx1⟩ := hoL.rd
  obtain ⟨gL, oL, rfl, hxL⟩ := hx1 hl0
  have e0 := hxL 0 hl0
  obtain ⟨hme, hme1, hme7⟩ := hLi _ (List.getElem_mem hl0)
  generalize L[0] = me at e0 hme hme1 hme7
  obtain ⟨m, rfl⟩ : ∃ m : Nat, me = m := ⟨me.toNat, by omega⟩
  rw [Nat.add_zero] at e0
  have hgL : gL < w3.heap.size := cell_lt e0
  clear hx1
  replace hxL := Lib.hid hxL
  unfold maxLen at hM1
  replace hoL := Lib.hid hoL
  replace hLi := Lib.hid hLi
  replace hLn := Lib.hid hLn
  replace hLd := Lib.hid hLd
  replace hL := Lib.hid hL
  have hme' : hasT (T : Int).toNat (m : Int) = true := by rw [Int.toNat_natCast]; exact hme
  replace hme' := Lib.hid hme'
  clear hme
  go_wp2_with fail
  refine (qNew_ok n T m _ hm.out hme'.out).mono ?_
  rintro r w4 ⟨rfl, hq4, hb4⟩
  have hB4 := Lib.hid (hB3.out.trans (hb4.mono hB3.out.size))
  obtain ⟨b, hb⟩ : ∃ b, b = w3.heap.size := ⟨_, rfl⟩
  rw [← hb] at hq4 ⊢
  have hwb : w.heap.size ≤ b := by have := hB3.out.size; omega
  have hRL4 := Lib.hid (hoL.out.rd.grow hb4)
  have hgLb : gL < b := by omega
  have hb4s : b < w4.heap.size := at_lt hq4.1
  replace hb := Lib.hid hb
  replace hq4 := Lib.hid hq4
  clear hb4 hb3 e0 hB2 hB3 hxL hoL
  have hmk := run_make_row' (P := Try.prog) 62 3 (.int .i64 0) 8 Try.underlying62 infoInt rfl .i64 .i64 L.length (by omega) (by omega)
  go_upto_region 9 with (fail)
  obtain ⟨w5, hw5⟩ : ∃ W, W = w4.alloc (.cells (madeCells #[.int .i64 0] L.length) 3) := ⟨_, rfl⟩
  rw [← hw5]
  have hb5 : Below w4.heap.size w4 w5 := hw5 ▸ (Below.refl _ _).alloc (Nat.le_refl _) _
  have hg5 : gO w5 w4.heap.size (List.replicate L.length 0) 3 := by rw [hw5, made_gO]; exact at_new _ _
  obtain ⟨nb, hnb⟩ : ∃ nb, nb = w4.heap.size := ⟨_, rfl⟩
  rw [← hnb] at hg5 ⊢
  have hB5 := Lib.hid (hB4.out.trans (hb5.mono hB4.out.size))
  have hRL5 := Lib.hid (hRL4.out.grow hb5)
  have hbn : b < nb := by omega
  have hQ5 : QM T n m L 3 w5 w5 b nb z8 z8 (List.replicate L.length 0) 0 0 := ⟨hq4.out.below hb5, hg5, by
      apply List.ext_getElem
      · simp
      · intro i h1 h2
        rw [List.getElem_replicate, List.getElem_map, z8_get], fun i => by rw [z8_get]; exact Int.le_refl _, fun i _ => z8_get i, fun j hj _ => z8_get _, Chg.refl _ _⟩
  have hnw : w.heap.size ≤ nb := by omega
  have hnlt : nb < w5.heap.size := at_lt hg5
  replace hQ5 := Lib.hid hQ5
  replace hnb := Lib.hid hnb
  clear hw5 hb5 hg5 hB4 hRL4 hq4 hmk
  go_wp2
  go_loopw [11] (fun i wr => ∃ (k : Nat) (H P G : List Int), k ≤ L.length ∧ k ≤ l.length ∧ i = .int .i64 k ∧ QM T n m L 3 w5 wr b nb H P G 0 k) (fun i _ => L.length - (intOf i).toNat)
  case atStart => exact ⟨0, _, _, _, Nat.zero_le _, Nat.zero_le _, rfl, hQ5.out⟩
  case round =>
    obtain ⟨k, H, P, G, hk, hkl, rfl, hQ⟩ := hrel
    clear hQ5
    have hGl : G.length = L.length := by rw [hQ.e]; simp
    have hbel := Lib.hid (hB5.out.trans (hQ.chg.below hB5.out.size fun j hj => by rcases hj with rfl | rfl <;> omega))
    have hRr := hRL5.out.chg hQ.chg (fun j hj => by
      have : gL = j := by injection hj
      subst this
      rintro (h | h) <;> omega)
    by_cases hlt : k < L.length
    · by_cases hlt2 : k < l.length
      · obtain ⟨gx, ox, rfl, hc⟩ := ha.out (by omega)
        have hck := hbel.out.cell (p := ⟨gx, ox + k, none⟩) (cell_lt (hc k hlt2))
        rw [hc k hlt2] at hck
        obtain ⟨hI1, hI2⟩ := hI.out _ (List.getElem_mem hlt2)
        clear hc
        generalize l[k] = x at hck hI1 hI2
        have tb1 := Int.tmod_lt_of_pos x (show (0 : Int) < 61 by omega)
        have tb2 := Int.lt_tmod_of_pos x (show (0 : Int) < 61 by omega)
        have hfx := tmod_fix x 61 (by omega)
        obtain ⟨Y, hY⟩ : ∃ Y, x % 61 = Y := ⟨_, rfl⟩
        rw [hY] at hfx
        have hY0 : 0 ≤ Y ∧ Y ≤ 60 := by omega
        replace hY := Lib.hid hY
        obtain ⟨_, _, heq, _, _, hLx⟩ := hRr
        injection heq with q1 q2 q3
        obtain ⟨gg, oo, e1, hLx⟩ := hLx (by omega)
        rw [e1] at q1
        injection q1 with q1; injection q1 with q1 q4; subst q1 q4
        have hLk := hLx k hlt
        obtain ⟨hhas, hi1, hi7⟩ := hLi.out _ (List.getElem_mem hlt)
        obtain ⟨id, hid⟩ : ∃ id : Nat, L[k] = (id : Int) := ⟨L[k].toNat, by omega⟩
        obtain ⟨s1, s2, s3, s4, s5⟩ := set_facts (Y := Y) hLd.out hLi.out hQ.q.2.1 hlt hid hY0.1 hQ.h0 hQ.hz hQ.left
        rw [hid] at hLk hhas hi1 hi7
        have hgc := hQ.g.cell (j := k) (by omega)
        have hgz := free_at hQ.g k
        have hgl := at_lt hQ.g
        have hkG : k < G.length := by omega
        have hg6 := hQ.g.set k Y
        have hcs : Chg (fun j => j = b ∨ j = nb) wr (wr.setCell ⟨nb, k, none⟩ (.int .i64 Y)) := chg_set (Chg.refl _ _) (.inr rfl)
        have hq6 := hQ.q.chg (chg_set (F := fun j => j = nb) (Chg.refl _ _) rfl : Chg _ wr (wr.setCell ⟨nb, k, none⟩ (.int .i64 Y))) (fun e => by omega)
        have hc6 := hQ.chg.more hcs (fun i hi => .inl hi)
        have hL6 : (wr.setCell ⟨nb, k, none⟩ (.int .i64 Y)).cell? ⟨gL, oL + k, none⟩ = some (.int .i64 id) := by
          rw [← hLk]
          exact World.cell?_of_block (w := wr) (a := ⟨gL, oL + k, none⟩) ((chg_set (F := fun j => j = nb) (Chg.refl _ wr) rfl).block gL (cell_lt hLk) (fun e => by omega))
        have hGe := Lib.hid hQ.e
        replace hq6 := Lib.hid hq6
        replace hg6 := Lib.hid hg6
        replace hc6 := Lib.hid hc6
        replace hL6 := Lib.hid hL6
        replace hid := Lib.hid hid
        replace s1 := Lib.hid s1
        replace s2 := Lib.hid s2
        replace s3 := Lib.hid s3
        replace s4 := Lib.hid s4
        replace s5 := Lib.hid s5
        replace hQ := Lib.hid hQ
        have hhas' : Hid (hasT (T : Int).toNat (id : Int) = true) := Lib.hid (by rw [Int.toNat_natCast]; exact hhas)
        clear hcs hLx hhas
        go_upto_region 13 with (fail)
        clear hfx tb1 tb2 hck hgc hgz hLk
        generalize World.setCell wr _ _ = w6 at hg6 hq6 hc6 hL6 ⊢
        have u1 := upF_cell (F := fun j => j = b) (show ¬ gL = b by omega) hL6.out
        have u2 := upF_cell (F := fun j => j = b) (show ¬ nb = b by omega) (hg6.out.cell (j := k) (by rw [List.length_set]; exact hkG))
        rw [List.getElem_set_self] at u2
        refine wp_region_pc (fun j => j = b) w6 (.q 0 (.q 1 (.q 2 (.q 3 (.q 4 (.q 5 (.q 6 (.q 7 (.q 8 (.l 9 (.q 10 .fin))))))))))) (by kernel_rfl) (by kernel_rfl) (Chg.refl _ _) ?_
        intro y0 hheap hy0 hyF
        clear hheap
        iterate 9 (refine pc_q rfl ?_; go_big_quiet_step (fail); refine wpQuiet_nil ?_)
        clear u1 u2
        refine pc_l rfl (by kernel_rfl) ?_
        intro K hK
        go_simp
        refine (qAck_yes b n T m H P 0 id Y 0 _ (hq6.out.below hy0) (by omega) hhas'.out (by omega) (by omega) hY0.1 hY0.2).mono ?_
        rintro r w7 ⟨rfl, hq7, hc7⟩
        rw [s5.out] at hq7
        have hc67 := hyF.more hc7 (fun i hi => .inl hi)
        have hQ7 : QM T n m L 3 w5 w7 b nb (H.set id Y) (ackP P id 0 0) (G.set k Y) 0 (k + 1) :=
          ⟨hq7, hg6.out.chg hc67 (fun e => by have : nb = b := e; omega), by rw [hGe.out]; exact s1.out, s2.out, s3.out, s4.out, hc6.out.more hc67 (fun i hi => .inl (.inl hi))⟩
        replace hQ7 := Lib.hid hQ7
        refine hK _ _ hc67 ?_
        clear hK K hc7 hq7 hc67
        iterate 1 (refine pc_q rfl ?_; go_big_quiet_step (fail); refine wpQuiet_nil ?_)
        refine pc_fin ?_
        go_wp2
        go_roundw
        case rel => exact ⟨k + 1, by omega, by omega, by go_num, H.set id Y, ackP P id 0 0, G.set k Y, hQ7.out⟩
        case measure => simp [intOf]; omega
      · have hc := most_count hm.out hQ.q.2.1 hQ.h0 hQ.hz
        rw [hL.out, ← hQ.e] at hc
        obtain ⟨hc1, hc2, hc3⟩ := hc
        have hqh := Lib.hid hQ.q
        have hgh := Lib.hid hQ.g
        have hQh := Lib.hid hQ
        clear hQ hRr
        go_wp2_with fail
        refine (qCommit_any b n T m H P 0 _ hqh.out (by omega) (by omega)).mono ?_
        rintro r w6 ⟨rfl, hb6⟩
        rw [Int.toNat_natCast]
        have hg6 : gO w6 nb G 3 := at_below hgh.out hb6
        have hB6 := Lib.hid (hbel.out.trans (hb6.mono hbel.out.size))
        generalize medS H n = c at hc1 hc2 hc3 ⊢
        obtain ⟨S, hS⟩ : ∃ S, G.countP (fun x => decide (c ≤ x)) = S := ⟨_, rfl⟩
        obtain ⟨M, hM2⟩ : ∃ M, G.countP (fun x => decide (c < x)) = M := ⟨_, rfl⟩
        rw [hS] at hc1
        rw [hM2] at hc2
        have hnl := at_lt hg6
        replace hg6 := Lib.hid hg6
        replace hS := Lib.hid hS
        replace hM2 := Lib.hid hM2
        clear hb6 hqh hgh
        go_wp2
        go_loop [13, 14, 15] (fun s t i => ∃ k : Nat, k ≤ G.length ∧ i = .int .i64 k ∧ s = .int .i64 (((G.take k).countP (fun x => decide (c ≤ x)) : Nat) : Int) ∧ t = .int .i64 (((G.take k).countP (fun x => decide (c < x)) : Nat) : Int)) (fun _ _ i => G.length - (intOf i).toNat)
        case atStart => exact ⟨0, Nat.zero_le _, rfl, rfl, rfl⟩
        case round =>
          obtain ⟨j, hj, rfl, rfl, rfl⟩ := hrel
          have hlS := List.countP_le_length (p := fun x => decide (c ≤ x)) (l := G.take j)
          have hlM := List.countP_le_length (p := fun x => decide (c < x)) (l := G.take j)
          rw [List.length_take] at hlS hlM
          by_cases hjl : j < G.length
          · have hgc := hg6.out.cell hjl
            have cS := count_take hjl (fun x => decide (c ≤ x))
            have cM := count_take hjl (fun x => decide (c < x))
            have hjL : j < L.length := by omega
            generalize G[j] = y at hgc cS cM
            generalize (G.take j).countP (fun x => decide (c ≤ x)) = s0 at hlS cS ⊢
            generalize (G.take j).countP (fun x => decide (c < x)) = t0 at hlM cM ⊢
            replace cS := Lib.hid cS
            replace cM := Lib.hid cM
            by_cases h1 : c ≤ y
            · by_cases h2 : c < y
              · have a1 : decide (c ≤ y) = true := by simpa using h1
                have a2 : decide (c < y) = true := by simpa using h2
                have b1 := cS.out
                have b2 := cM.out
                simp only [a1, a2, if_true] at b1 b2
                replace b1 := Lib.hid b1
                replace b2 := Lib.hid b2
                go_wp2
                go_round
                case rel => exact ⟨j + 1, by omega, by go_num, by rw [b1.out]; go_num, by rw [b2.out]; go_num⟩
                case measure => simp [intOf]; omega
              · have a1 : decide (c ≤ y) = true := by simpa using h1
                have a2 : decide (c < y) = false := by simpa using h2
                have b1 := cS.out
                have b2 := cM.out
                simp only [a1, a2, if_true, Bool.false_eq_true, if_false, Nat.add_zero] at b1 b2
                replace b1 := Lib.hid b1
                replace b2 := Lib.hid b2
                go_wp2
                go_round
                case rel => exact ⟨j + 1, by omega, by go_num, by rw [b1.out]; go_num, by rw [b2.out]⟩
                case measure => simp [intOf]; omega
            · have h2 : ¬ c < y := by omega
              have a1 : decide (c ≤ y) = false := by simpa using h1
              have a2 : decide (c < y) = false := by simpa using h2
              have b1 := cS.out
              have b2 := cM.out
              simp only [a1, a2, Bool.false_eq_true, if_false, Nat.add_zero] at b1 b2
              replace b1 := Lib.hid b1
              replace b2 := Lib.hid b2
              go_wp2
              go_round
              case rel => exact ⟨j + 1, by omega, by go_num, by rw [b1.out], by rw [b2.out]⟩
              case measure => simp [intOf]; omega
          · obtain rfl : j = G.length := by omega
            rw [List.take_length, hS.out, hM2.out]
            have hq2 : (n : Int).tdiv 2 = ((n / 2 : Nat) : Int) := by rw [Int.tdiv_eq_ediv_of_nonneg (by omega)]; omega
            have d1 : n / 2 < S := by omega
            have d2 : M ≤ n / 2 := by omega
            clear hlS hlM hS hM2 hc1 hc2
            go_wp2
            go_ret
            exact ⟨ret_bool (by simp <;> omega), hB6.out⟩
    · have hc := most_count hm.out hQ.q.2.1 hQ.h0 hQ.hz
      rw [hL.out, ← hQ.e] at hc
      obtain ⟨hc1, hc2, hc3⟩ := hc
      have hqh := Lib.hid hQ.q
      have hgh := Lib.hid hQ.g
      have hQh := Lib.hid hQ
      clear hQ hRr
      go_wp2_with fail
      refine (qCommit_any b n T m H P 0 _ hqh.out (by omega) (by omega)).mono ?_
      rintro r w6 ⟨rfl, hb6⟩
      rw [Int.toNat_natCast]
      have hg6 : gO w6 nb G 3 := at_below hgh.out hb6
      have hB6 := Lib.hid (hbel.out.trans (hb6.mono hbel.out.size))
      generalize medS H n = c at hc1 hc2 hc3 ⊢
      obtain ⟨S, hS⟩ : ∃ S, G.countP (fun x => decide (c ≤ x)) = S := ⟨_, rfl⟩
      obtain ⟨M, hM2⟩ : ∃ M, G.countP (fun x => decide (c < x)) = M := ⟨_, rfl⟩
      rw [hS] at hc1
      rw [hM2] at hc2
      have hnl := at_lt hg6
      replace hg6 := Lib.hid hg6
      replace hS := Lib.hid hS
      replace hM2 := Lib.hid hM2
      clear hb6 hqh hgh
      go_wp2
      go_loop [13, 14, 15] (fun s t i => ∃ k : Nat, k ≤ G.length ∧ i = .int .i64 k ∧ s = .int .i64 (((G.take k).countP (fun x => decide (c ≤ x)) : Nat) : Int) ∧ t = .int .i64 (((G.take k).countP (fun x => decide (c < x)) : Nat) : Int)) (fun _ _ i => G.length - (intOf i).toNat)
      case atStart => exact ⟨0, Nat.zero_le _, rfl, rfl, rfl⟩
      case round =>
        obtain ⟨j, hj, rfl, rfl, rfl⟩ := hrel
        have hlS := List.countP_le_length (p := fun x => decide (c ≤ x)) (l := G.take j)
        have hlM := List.countP_le_length (p := fun x => decide (c < x)) (l := G.take j)
        rw [List.length_take] at hlS hlM
        by_cases hjl : j < G.length
        · have hgc := hg6.out.cell hjl
          have cS := count_take hjl (fun x => decide (c ≤ x))
          have cM := count_take hjl (fun x => decide (c < x))
          have hjL : j < L.length := by omega
          generalize G[j] = y at hgc cS cM
          generalize (G.take j).countP (fun x => decide (c ≤ x)) = s0 at hlS cS ⊢
          generalize (G.take j).countP (fun x => decide (c < x)) = t0 at hlM cM ⊢
          replace cS := Lib.hid cS
          replace cM := Lib.hid cM
          by_cases h1 : c ≤ y
          · by_cases h2 : c < y
            · have a1 : decide (c ≤ y) = true := by simpa using h1
              have a2 : decide (c < y) = true := by simpa using h2
              have b1 := cS.out
              have b2 := cM.out
              simp only [a1, a2, if_true] at b1 b2
              replace b1 := Lib.hid b1
              replace b2 := Lib.hid b2
              go_wp2
              go_round
              case rel => exact ⟨j + 1, by omega, by go_num, by rw [b1.out]; go_num, by rw [b2.out]; go_num⟩
              case measure => simp [intOf]; omega
            · have a1 : decide (c ≤ y) = true := by simpa using h1
              have a2 : decide (c < y) = false := by simpa using h2
              have b1 := cS.out
              have b2 := cM.out
              simp only [a1, a2, if_true, Bool.false_eq_true, if_false, Nat.add_zero] at b1 b2
              replace b1 := Lib.hid b1
              replace b2 := Lib.hid b2
              go_wp2
              go_round
              case rel => exact ⟨j + 1, by omega, by go_num, by rw [b1.out]; go_num, by rw [b2.out]⟩
              case measure => simp [intOf]; omega
          · have h2 : ¬ c < y := by omega
            have a1 : decide (c ≤ y) = false := by simpa using h1
            have a2 : decide (c < y) = false := by simpa using h2
            have b1 := cS.out
            have b2 := cM.out
            simp only [a1, a2, Bool.false_eq_true, if_false, Nat.add_zero] at b1 b2
            replace b1 := Lib.hid b1
            replace b2 := Lib.hid b2
            go_wp2
            go_round
            case rel => exact ⟨j + 1, by omega, by go_num, by rw [b1.out], by rw [b2.out]⟩
            case measure => simp [intOf]; omega
        · obtain rfl : j = G.length := by omega
          rw [List.take_length, hS.out, hM2.out]
          have hq2 : (n : Int).tdiv 2 = ((n / 2 : Nat) : Int) := by rw [Int.tdiv_eq_ediv_of_nonneg (by omega)]; omega
          have d1 : n / 2 < S := by omega
          have d2 : M ≤ n / 2 := by omega
          clear hlS hlM hS hM2 hc1 hc2
          go_wp2
          go_ret
          exact ⟨ret_bool (by simp <;> omega), hB6.out⟩

/-! the row's step, written out by law.py -/
set_option maxRecDepth 100000 in
theorem lifted (os : Os) (started : os.Started) (H : Type) (enc : TypeId × Value → H) :
    ReturnsInHanded {} Try.checked os 10 .any (Rows.quorumMostSpec.pre6 enc Try.prog Try.f10 Rows.quorumMostRow.domain false) (Rows.quorumMostSpec.post enc Try.prog Try.f10 false true false false) := by
  refine returnsInHanded_of_change (C := Try.checked) own started (by kernel_rfl) Try.func10
    (ChangeSpec.witness6 (enc := enc) (C := Try.checked) false ⟨#[], #[.int .i64 0, .int .i64 0, .slice none 0 0], []⟩ 8 (by kernel_rfl) (by kernel_rfl) (by kernel_rfl) (by kernel_rfl)) ?_
  intro W base args ds gs before hval0 hW hcnd _
  have hval : ∀ (j : Nat) t v, Try.f10.params[j]? = some t → args[j]? = some v → Value.okWide Try.prog W .any base t v := hval0
  have hW' := hW
  obtain ⟨p, q, hA0, hV, rfl, hfz, hnd⟩ := hW
  have hA : DataW.TrodAll enc Try.prog W 0 (fun _ => true) true Try.f10.params.toList args.toList ds p := hA0
  rw [Try.params10] at hA hval
  obtain ⟨v0, vs0, d0, ds0, p0, q0, hargs, rfl, rfl, h0, r0⟩ := trodAll_cons hA
  obtain ⟨v1, vs1, d1, ds1, p1, q1, rfl, rfl, rfl, h1, r1⟩ := trodAll_cons r0
  obtain ⟨v2, vs2, d2, ds2, p2, q2, rfl, rfl, rfl, h2, r2⟩ := trodAll_cons r1
  obtain ⟨rfl, rfl, rfl⟩ := trodAll_nil r2
  obtain rfl : args = #[v0, v1, v2] := by cases args; simp_all
  obtain ⟨rfl, rfl⟩ := trodVars_none hV
  have k0 := h0
  have lt0 : ∀ x ∈ p0, x.block < W.heap.size := by obtain ⟨m, hm⟩ := k0; exact DataW.trod_lt m _ _ _ hm
  have k1 := h1
  have lt1 : ∀ x ∈ p1, x.block < W.heap.size := by obtain ⟨m, hm⟩ := k1; exact DataW.trod_lt m _ _ _ hm
  have k2 := h2
  have lt2 : ∀ x ∈ p2, x.block < W.heap.size := by obtain ⟨m, hm⟩ := k2; exact DataW.trod_lt m _ _ _ hm
  obtain ⟨a0, rfl, rfl, rfl, w0⟩ := open_int Try.underlying3 (hval 0 3 v0 rfl rfl) h0
  have w0 := bounds_i64 w0
  obtain ⟨a1, rfl, rfl, rfl, w1⟩ := open_int Try.underlying3 (hval 1 3 v1 rfl rfl) h1
  have w1 := bounds_i64 w1
  obtain ⟨l2, w2, b2⟩ := rdI_open Try.underlying62 Try.underlying3 (by kernel_rfl) (hval 2 62 v2 rfl rfl) h2
  clear hA0 hval0
  simp only [List.append_nil] at hW'
  refine (walk a0 a1 v2 l2 W w0 w1 w2 b2).mono fun e W' ⟨he, bel⟩ => ?_
  subst he
  exact ⟨_, rfl, _, _, _, [], _, [], hW', trodAll_mk1 (shut_bool Try.underlying4 _), (trodAll_cons_mk (Below.trod laidOut (by kernel_rfl) (of_decide_eq_true (by kernel_rfl)) k0 bel lt0) (trodAll_cons_mk (Below.trod laidOut (by kernel_rfl) (of_decide_eq_true (by kernel_rfl)) k1 bel lt1) (trodAll_cons_mk (Below.trod laidOut (by kernel_rfl) (of_decide_eq_true (by kernel_rfl)) k2 bel lt2) trodAll_mk0))), rfl, bel.frame _, fun h => by cases h⟩

theorem over : Rows.quorumMostRow.holds Try.pinned (OpenSpec.ofChange Rows.quorumMostSpec) :=
  OpenClaim.holds_of_wide 10 Try.f10 rfl rfl rfl rfl rfl rfl rfl ⟨rfl, rfl, rfl, rfl, rfl⟩ rfl rfl rfl rfl rfl (by kernel_rfl) Try.func10 (by kernel_rfl)
    (of_decide_eq_true (by kernel_rfl)) (by unfold Func.isWrapper; first | (rw [if_pos (by decide +kernel)]; kernel_rfl) | (rw [if_neg (by decide +kernel)]; exact ⟨rfl, rfl⟩))
    (fun os started H enc _ => lifted os started H enc)

theorem proved : Rows.QuorumMostSaid := over
end Go.Proofs.Ytimffflhfaiakaa.lawQuorumMost

