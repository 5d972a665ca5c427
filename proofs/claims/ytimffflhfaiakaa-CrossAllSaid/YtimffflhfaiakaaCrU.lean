/- Contract of the reference: where the most agree. -/
import Derived.Test.YtimffflhfaiakaaCrT
import Derived.Test.YtimffflhfaiakaaUp
import Derived.BigQuiet
namespace Go.Proofs.Ytimffflhfaiakaa
open Go.RowKit
set_option linter.unusedVariables false

set_option maxRecDepth 100000 in
set_option maxHeartbeats 8000000 in
theorem rBest_any (v : Value) (l : List Rg) (w : World) (hr : rdR w v l) (hok : okR l) :
    Calls Try.prog 18 #[v] w fun r w' => r = .returned (.tuple #[.agg #[.int .i64 (bestR l).1.low, .int .i64 (bestR l).1.high], .int .i64 ((bestR l).2 : Nat)]) ∧ Below w.heap.size w w' := by
  obtain ⟨W1, hW1⟩ : ∃ W, W = (w.alloc (.cells #[.int .i64 0, .int .i64 0] 31)).alloc (.cells #[.int .i64 0, .int .i64 0] 31) := ⟨_, rfl⟩
  have hB1 : Below w.heap.size w W1 := hW1 ▸ ((Below.refl _ _).alloc (Nat.le_refl _) _).alloc (by simp) _
  have hz1 : W1.heap[w.heap.size]? = some (.cells #[.int .i64 0, .int .i64 0] 31 (0, 0)) := hW1 ▸ at_old _ (at_new _ _)
  have hb1 : W1.heap[w.heap.size + 1]? = some (.cells #[.int .i64 0, .int .i64 0] 31 (0, 0)) := by
    have := at_new (w.alloc (.cells #[.int .i64 0, .int .i64 0] 31)) (.cells #[.int .i64 0, .int .i64 0] 31)
    rw [← hW1] at this
    simpa using this
  obtain ⟨nr, hnr⟩ : ∃ nr, nr = w.heap.size := ⟨_, rfl⟩
  rw [← hnr] at hz1 hb1
  obtain ⟨nb, hnb⟩ : ∃ nb, nb = nr + 1 := ⟨_, rfl⟩
  rw [← hnb] at hb1
  have hrb : nr < nb := by omega
  have hnbW := at_lt hb1
  have hwr : w.heap.size ≤ nr := by omega
  have S := best_spec l hok
  have K := pick_best l hok
  have hpk : pickR l = l.foldl (pickStep l) (0, 0) := rfl
  obtain ⟨⟨bb, nn⟩, hbst⟩ : ∃ x, bestR l = x := ⟨_, rfl⟩
  rw [hbst, hpk] at K
  rw [hbst] at S ⊢
  dsimp only at S K ⊢
  clear hbst hpk
  replace S := Lib.hid S
  replace K := Lib.hid K
  have hrH := Lib.hid hr
  obtain ⟨a, cap, rfl, hm, hM, ha⟩ := hr
  unfold maxLen at hM
  replace ha := Lib.hid ha
  replace hz1 := Lib.hid hz1
  replace hb1 := Lib.hid hb1
  replace hB1 := Lib.hid hB1
  go_enter Try.func18, Try.ntmps18
  go_upto_region 3 with (fail)
  rw [← hW1, ← hnr, ← hnb]
  clear hW1
  replace hnr := Lib.hid hnr
  replace hnb := Lib.hid hnb
  go_wp2
  go_loopw [4, 6] (fun s i wr => ∃ (k : Nat) (lo : Int) (n : Nat), k ≤ l.length ∧ i = .int .i64 k ∧ s = .int .i64 (n : Int) ∧ (l.take k).foldl (pickStep l) (0, 0) = (lo, n) ∧ wr.heap[nb]? = some (.cells #[.int .i64 lo, .int .i64 0] 31 (0, 0)) ∧ wr.heap[nr]? = some (.cells #[.int .i64 0, .int .i64 0] 31 (0, 0)) ∧ Below w.heap.size w wr) (fun _ i _ => l.length - (intOf i).toNat)
  case atStart => exact ⟨0, 0, 0, Nat.zero_le _, rfl, rfl, rfl, hb1.out, hz1.out, hB1.out⟩
  case round =>
    obtain ⟨k, lo, n, hk, rfl, rfl, hst, hbest, hzero, hbel⟩ := hrel
    clear hz1 hb1 hB1
    have hrr := Lib.hid (hrH.out.grow hbel)
    by_cases hlt : k < l.length
    · obtain ⟨g, off, rfl, hc⟩ := ha.out (by omega)
      have hck := cRg.grow _ _ _ _ _ (hc k hlt) hbel
      have hsk := foldl_take (pickStep l) (0, 0) l k hlt
      rw [hst] at hsk
      clear hc
      generalize l[k] = x at hck hsk
      obtain ⟨xl, xh⟩ := x
      obtain ⟨c0, c1⟩ := hck
      dsimp only at c0 c1
      obtain ⟨c, hcc⟩ : ∃ c, cntR l xl = c := ⟨_, rfl⟩
      have hstep : pickStep l (lo, n) ⟨xl, xh⟩ = if xl ≤ xh ∧ (n < c ∨ (c = n ∧ xl < lo)) then (xl, c) else (lo, n) := by
        unfold pickStep; rw [← hcc]
      rw [hstep] at hsk
      clear hstep hst
      replace hsk := Lib.hid hsk
      replace hcc := Lib.hid hcc
      have b0 := cell_at hbest 0
      simp only [List.getElem?_toArray, List.getElem?_cons_zero, List.getElem?_cons_succ] at b0
      replace hbest := Lib.hid hbest
      replace hzero := Lib.hid hzero
      replace hbel := Lib.hid hbel
      go_upto_region 6 with (fail)
      go_wp2_with fail
      refine (rCount_any _ l xl _ hrr.out).mono ?_
      rintro r w6 ⟨rfl, rfl⟩
      rw [hcc.out]
      go_upto_region 7 with (fail)
      go_cut [51] (fun s wx => s = .bool (decide (xl ≤ xh ∧ (n < c ∨ (c = n ∧ xl < lo)))) ∧ Below wr.heap.size wr wx)
      case first =>
        have u0 := upTo_cell c0
        have u1 := upTo_cell c1
        have t0 := upTo_cell b0
        clear c0 c1 b0
        by_cases h1 : xl ≤ xh
        · have d1 : decide (xl ≤ xh) = true := decide_eq_true h1
          by_cases h2 : n < c
          · have d2 : decide ((n : Int) < (c : Int)) = true := by simp; omega
            have d2' : decide (n < c) = true := by simp; omega
            refine wp_region_up (by kernel_rfl) (by kernel_rfl) ?_
            repeat (go_big_quiet_step (fail))
            refine wpQuiet_nil ?_
            intro w2 hw2
            have hb2 := up_below hw2
            clear hw2 u0 u1 t0
            go_wp2_with fail
            go_meet
            exact ⟨by simp [h1, h2] <;> omega, hb2⟩
          · have d2 : decide ((n : Int) < (c : Int)) = false := by simp; omega
            have d2' : decide (n < c) = false := by simp; omega
            by_cases h3 : c = n
            · have d3 : ((c : Int) == (n : Int)) = true := by simp [h3]
              have d3' : (c == n) = true := by simp [h3]
              have h3H := Lib.hid h3
              clear h3
              by_cases h4 : xl < lo
              · have d4 : decide (xl < lo) = true := decide_eq_true h4
                refine wp_region_up (by kernel_rfl) (by kernel_rfl) ?_
                repeat (go_big_quiet_step (fail))
                refine wpQuiet_nil ?_
                intro w2 hw2
                have hb2 := up_below hw2
                clear hw2 u0 u1 t0
                go_wp2_with fail
                go_meet
                exact ⟨by simp [h1, h3H.out, h4] <;> omega, hb2⟩
              · have d4 : decide (xl < lo) = false := decide_eq_false h4
                refine wp_region_up (by kernel_rfl) (by kernel_rfl) ?_
                repeat (go_big_quiet_step (fail))
                refine wpQuiet_nil ?_
                intro w2 hw2
                have hb2 := up_below hw2
                clear hw2 u0 u1 t0
                go_wp2_with fail
                go_meet
                exact ⟨by simp [h2, h4] <;> omega, hb2⟩
            · have d3 : ((c : Int) == (n : Int)) = false := by simp; omega
              have d3' : (c == n) = false := by simpa using h3
              refine wp_region_up (by kernel_rfl) (by kernel_rfl) ?_
              repeat (go_big_quiet_step (fail))
              refine wpQuiet_nil ?_
              intro w2 hw2
              have hb2 := up_below hw2
              clear hw2 u0 u1 t0
              go_wp2_with fail
              go_meet
              exact ⟨by simp [h2, h3] <;> omega, hb2⟩
        · have d1 : decide (xl ≤ xh) = false := decide_eq_false h1
          refine wp_region_up (by kernel_rfl) (by kernel_rfl) ?_
          repeat (go_big_quiet_step (fail))
          refine wpQuiet_nil ?_
          intro w2 hw2
          have hb2 := up_below hw2
          clear hw2 u0 u1 t0
          go_wp2_with fail
          go_meet
          exact ⟨by simp [h1] <;> omega, hb2⟩
      case rest =>
        rename World => wx
        obtain ⟨rfl, hbx⟩ := hcut
        have hck2 := cRg.grow wr wx g _ ⟨xl, xh⟩ ⟨c0, c1⟩ hbx
        obtain ⟨e0, e1⟩ := hck2
        dsimp only at e0 e1
        have hbest2 := at_below hbest.out hbx
        have hzero2 := Lib.hid (at_below hzero.out hbx)
        have hB2 := Lib.hid (hbel.out.trans (hbx.mono hbel.out.size))
        clear c0 c1 b0 hbx hbest hzero hbel hrr
        by_cases hC : xl ≤ xh ∧ (n < c ∨ (c = n ∧ xl < lo))
        · rw [decide_eq_true hC]
          have hs2 : Hid ((l.take (k + 1)).foldl (pickStep l) (0, 0) = (xl, c)) := Lib.hid (by rw [hsk.out, if_pos hC])
          have zb0 := free_at hbest2 0
          have q0 := cell_at hbest2 0
          simp only [List.getElem?_toArray, List.getElem?_cons_zero, List.getElem?_cons_succ] at q0
          have hset := set_at (o := 0) (u := .int .i64 xl) hbest2
          have hset' : (wx.setCell ⟨nb, 0, none⟩ (.int .i64 xl)).heap[nb]? = some (.cells #[.int .i64 xl, .int .i64 0] 31 (0, 0)) := hset
          have hcs : Chg (fun j => j = nb) wx (wx.setCell ⟨nb, 0, none⟩ (.int .i64 xl)) := chg_set (Chg.refl _ _) rfl
          have hz7 := Lib.hid (at_chg hzero2.out hcs (fun e => by have : nr = nb := e; omega))
          have hB70 : Below w.heap.size w (wx.setCell ⟨nb, 0, none⟩ (.int .i64 xl)) := hB2.out.setCell (show w.heap.size ≤ nb by omega) _
          have hB7 := Lib.hid hB70
          clear hB70
          have hnbx := at_lt hbest2
          replace hset' := Lib.hid hset'
          clear hcs hset hC hbest2
          go_wp2
          go_roundw
          case rel => exact ⟨k + 1, xl, c, by omega, by go_num, rfl, hs2.out, hset'.out, hz7.out, hB7.out⟩
          case measure => simp [intOf]; omega
        · rw [decide_eq_false hC]
          have hs2 : Hid ((l.take (k + 1)).foldl (pickStep l) (0, 0) = (lo, n)) := Lib.hid (by rw [hsk.out, if_neg hC])
          replace hbest2 := Lib.hid hbest2
          clear hC
          go_wp2
          go_roundw
          case rel => exact ⟨k + 1, lo, n, by omega, by go_num, rfl, hs2.out, hbest2.out, hzero2.out, hB2.out⟩
          case measure => simp [intOf]; omega
    · obtain rfl : k = l.length := by omega
      rw [List.take_length] at hst
      have hK := K.out
      rw [hst] at hK
      dsimp only at hK
      obtain ⟨rfl, hlo⟩ := hK
      have t0 := cell_at hzero 0
      have t1 := cell_at hzero 1
      simp only [List.getElem?_toArray, List.getElem?_cons_zero, List.getElem?_cons_succ] at t0 t1
      have zt0 := free_at hzero 0
      have zt1 := free_at hzero 1
      have hnrl := at_lt hzero
      have hbH := Lib.hid hbest
      replace hst := Lib.hid hst
      by_cases h0 : n = 0
      · subst h0
        have e := S.out.none rfl
        subst e
        have hB : Below w.heap.size w ((wr.setCell ⟨nr, 0, none⟩ (.int .i64 0)).setCell ⟨nr, 1, none⟩ (.int .i64 0)) := (hbel.setCell hwr _).setCell hwr _
        replace hB := Lib.hid hB
        clear hbel hbest
        go_wp2
        exact bodyPost_ret (v := .tuple #[.agg #[.int .i64 0, .int .i64 0], .int .i64 0]) (by simp [results, Try.results18, go_sem, hnrl, t0, t1]) rfl ⟨rfl, hB.out⟩
      · obtain rfl := hlo (by omega)
        have I0 := high_start S.out (by omega)
        have b0 := cell_at hbest 0
        have b1 := cell_at hbest 1
        simp only [List.getElem?_toArray, List.getElem?_cons_zero, List.getElem?_cons_succ] at b0 b1
        have zb1 := free_at hbest 1
        have hnbl := at_lt hbest
        obtain ⟨bl, bh⟩ := bb
        dsimp only at b0 b1 zb1 hbest hbH hst I0 hlo ⊢
        have hrng := S.out.rng (by omega)
        dsimp only at hrng
        obtain ⟨⟨r1, r2⟩, ⟨r3, r4⟩, r5⟩ := hrng
        obtain ⟨e0, he0⟩ : ∃ e, endR l bl = e := ⟨_, rfl⟩
        rw [he0] at I0
        replace he0 := Lib.hid he0
        replace I0 := Lib.hid I0
        have hset := set_at (o := 1) (u := .int .i64 e0) hbest
        have hset' : (wr.setCell ⟨nb, 1, none⟩ (.int .i64 e0)).heap[nb]? = some (.cells #[.int .i64 bl, .int .i64 e0] 31 (0, 0)) := hset
        have hcs : Chg (fun j => j = nb) wr (wr.setCell ⟨nb, 1, none⟩ (.int .i64 e0)) := chg_set (Chg.refl _ _) rfl
        have hz7 := Lib.hid (at_chg hzero hcs (fun e => by have : nr = nb := e; omega))
        have hB70 : Below w.heap.size w (wr.setCell ⟨nb, 1, none⟩ (.int .i64 e0)) := hbel.setCell (show w.heap.size ≤ nb by omega) _
        have hB7 := Lib.hid hB70
        clear hB70
        replace hset' := Lib.hid hset'
        clear hcs hset hbest hzero hbel hlo hst t0 t1 zt0 zt1 hnrl
        have hn0 : ((n : Int) == 0) = false := by simp; omega
        have hn0' : (n == 0) = false := by simpa using h0
        go_wp2_with fail
        refine (rEnds_any _ l bl _ hrr.out).mono ?_
        rintro r w6 ⟨rfl, rfl⟩
        rw [he0.out]
        clear hrr
        go_wp2
        go_loopw [70] (fun s wr => ∃ h, HighI l ⟨bl, bh⟩ n h ∧ wr.heap[nb]? = some (.cells #[.int .i64 bl, .int .i64 h] 31 (0, 0)) ∧ wr.heap[nr]? = some (.cells #[.int .i64 0, .int .i64 0] 31 (0, 0)) ∧ Below w.heap.size w wr) (fun _ wr => ((9223372036854775807 : Int) - intOf ((wr.cell? ⟨nb, 1, none⟩).getD (.int .i64 0))).toNat)
        case atStart => exact ⟨e0, I0.out, hset'.out, hz7.out, hB7.out⟩
        case round =>
          clear b0 b1 zb1 hnbl hz7 hB7 hset'
          obtain ⟨h, I, hbest, hzero, hbel⟩ := hrel
          have b0 := cell_at hbest 0
          have b1 := cell_at hbest 1
          have t0 := cell_at hzero 0
          have t1 := cell_at hzero 1
          simp only [List.getElem?_toArray, List.getElem?_cons_zero, List.getElem?_cons_succ] at b0 b1 t0 t1
          have zb1 := free_at hbest 1
          have zt0 := free_at hzero 0
          have zt1 := free_at hzero 1
          have hnrl := at_lt hzero
          have hnbl := at_lt hbest
          by_cases hm : h < 9223372036854775807
          · have i1 := I.lo
            dsimp only at i1
            have hG := high_go S.out I hm
            obtain ⟨c, hcc⟩ : ∃ c, cntR l (h + 1) = c := ⟨_, rfl⟩
            rw [hcc] at hG
            have hr3 := Lib.hid (hrH.out.grow hbel)
            replace hcc := Lib.hid hcc
            replace hG := Lib.hid hG
            replace I := Lib.hid I
            replace hbel := Lib.hid hbel
            replace hbest := Lib.hid hbest
            replace hzero := Lib.hid hzero
            go_wp2_with fail
            refine (rCount_any _ l (h + 1) _ hr3.out).mono ?_
            rintro r w6 ⟨rfl, rfl⟩
            rw [hcc.out]
            by_cases h3 : c = n
            · have d3 : ((c : Int) == (n : Int)) = true := by simp [h3]
              have d3' : (c == n) = true := by simp [h3]
              obtain ⟨I2, h4⟩ := hG.out h3
              obtain ⟨e, he⟩ : ∃ e, endR l (h + 1) = e := ⟨_, rfl⟩
              rw [he] at I2 h4
              replace he := Lib.hid he
              replace I2 := Lib.hid I2
              have hset := set_at (o := 1) (u := .int .i64 e) hbest.out
              have hset' : (wr.setCell ⟨nb, 1, none⟩ (.int .i64 e)).heap[nb]? = some (.cells #[.int .i64 bl, .int .i64 e] 31 (0, 0)) := hset
              have q1 := cell_at hset' 1
              simp only [List.getElem?_toArray, List.getElem?_cons_zero, List.getElem?_cons_succ] at q1
              have hcs : Chg (fun j => j = nb) wr (wr.setCell ⟨nb, 1, none⟩ (.int .i64 e)) := chg_set (Chg.refl _ _) rfl
              have hz7 := Lib.hid (at_chg hzero.out hcs (fun e => by have : nr = nb := e; omega))
              have hB70 : Below w.heap.size w (wr.setCell ⟨nb, 1, none⟩ (.int .i64 e)) := hbel.out.setCell (show w.heap.size ≤ nb by omega) _
              have hB7 := Lib.hid hB70
              clear hB70
              have hmm : ((9223372036854775807 : Int) - e).toNat < ((9223372036854775807 : Int) - h).toNat := by have := I2.out.hi; unfold maxI at this; omega
              have q1H := Lib.hid q1
              have b1H := Lib.hid b1
              replace hset' := Lib.hid hset'
              replace hmm := Lib.hid hmm
              clear hcs hset h3 q1 hG
              go_wp2_with fail
              refine (rEnds_any _ l (h + 1) _ hr3.out).mono ?_
              rintro r w7 ⟨rfl, rfl⟩
              rw [he.out]
              go_wp2
              go_roundw
              case rel => exact ⟨e, I2.out, hset'.out, hz7.out, hB7.out⟩
              case measure => rw [q1H.out, b1H.out]; exact hmm.out
            · have d3 : ((c : Int) == (n : Int)) = false := by simp; omega
              have d3' : (c == n) = false := by simpa using h3
              replace hbel := hbel.out
              replace I := I.out
              have hh := high_end S.out (by omega) I (fun _ => by rw [hcc.out]; exact h3)
              dsimp only at hh
              subst hh
              have hB : Below w.heap.size w ((wr.setCell ⟨nr, 0, none⟩ (.int .i64 bl)).setCell ⟨nr, 1, none⟩ (.int .i64 h)) := (hbel.setCell hwr _).setCell hwr _
              replace hB := Lib.hid hB
              have hn1 : ¬ nb = nr := by omega
              have hn2 : ¬ nr = nb := by omega
              clear hbel hbest hzero I
              go_wp2
              exact bodyPost_ret (v := .tuple #[.agg #[.int .i64 bl, .int .i64 h], .int .i64 (n : Int)]) (by simp [results, Try.results18, go_sem, hn1, hn2, hnrl, t0, t1]) rfl ⟨rfl, hB.out⟩
          · have hh := high_end S.out (by omega) I (fun h9 => absurd h9 hm)
            dsimp only at hh
            subst hh
            have hB : Below w.heap.size w ((wr.setCell ⟨nr, 0, none⟩ (.int .i64 bl)).setCell ⟨nr, 1, none⟩ (.int .i64 h)) := (hbel.setCell hwr _).setCell hwr _
            replace hB := Lib.hid hB
            have hn1 : ¬ nb = nr := by omega
            have hn2 : ¬ nr = nb := by omega
            clear hbel hbest hzero I
            go_wp2
            exact bodyPost_ret (v := .tuple #[.agg #[.int .i64 bl, .int .i64 h], .int .i64 (n : Int)]) (by simp [results, Try.results18, go_sem, hn1, hn2, hnrl, t0, t1]) rfl ⟨rfl, hB.out⟩
end Go.Proofs.Ytimffflhfaiakaa
