/- Contract of the reference: where so many do. -/
import Derived.Test.YtimffflhfaiakaaCrT
import Derived.Test.YtimffflhfaiakaaUp
import Derived.BigQuiet
namespace Go.Proofs.Ytimffflhfaiakaa
open Go.RowKit
set_option linter.unusedVariables false

set_option maxRecDepth 100000 in
set_option maxHeartbeats 8000000 in
theorem rHull_any (v : Value) (l : List Rg) (n : Int) (w : World) (hr : rdR w v l) (hok : okR l) :
    Calls Try.prog 20 #[v, .int .i64 n] w fun r w' => r = .returned (.tuple #[.agg #[.int .i64 (mostR l n).1.low, .int .i64 (mostR l n).1.high], .bool (mostR l n).2]) ∧ Below w.heap.size w w' := by
  obtain ⟨W1, hW1⟩ : ∃ W, W = (w.alloc (.cells #[.int .i64 0, .int .i64 0] 31)).alloc (.cells #[.int .i64 0, .int .i64 0] 31) := ⟨_, rfl⟩
  have hB1 : Below w.heap.size w W1 := hW1 ▸ ((Below.refl _ _).alloc (Nat.le_refl _) _).alloc (by simp) _
  have hz1 : W1.heap[w.heap.size]? = some (.cells #[.int .i64 0, .int .i64 0] 31 (0, 0)) := hW1 ▸ at_old _ (at_new _ _)
  have hb1 : W1.heap[w.heap.size + 1]? = some (.cells #[.int .i64 0, .int .i64 0] 31 (0, 0)) := by
    have := at_new (w.alloc (.cells #[.int .i64 0, .int .i64 0] 31)) (.cells #[.int .i64 0, .int .i64 0] 31)
    rw [← hW1] at this
    simpa using this
  obtain ⟨nr, hnr⟩ : ∃ nr, nr = w.heap.size := ⟨_, rfl⟩
  rw [← hnr] at hz1 hb1
  obtain ⟨nb, hnb⟩ : ∃ nb, nb = nr + 1 := ⟨_, rfl⟩
  rw [← hnb] at hb1
  have hrb : nr < nb := by omega
  have hnbW := at_lt hb1
  have hwr : w.heap.size ≤ nr := by omega
  have M1 := fun h => hull_most l hok n h
  have M0 : n < 1 → mostR l n = (⟨0, 0⟩, false) := fun h => most_low h
  obtain ⟨⟨⟨ml, mh⟩, mo⟩, hmst⟩ : ∃ x, mostR l n = x := ⟨_, rfl⟩
  rw [hmst] at M1 M0 ⊢
  dsimp only
  clear hmst
  replace M1 := Lib.hid M1
  replace M0 := Lib.hid M0
  have hrH := Lib.hid hr
  obtain ⟨a, cap, rfl, hm, hM, ha⟩ := hr
  unfold maxLen at hM
  have hold : 0 < l.length → ∀ g off, a = some ⟨g, off, none⟩ → ¬ g = nb := fun h0 g off e => by
    obtain ⟨g1, o1, e1, hc⟩ := ha h0
    rw [e] at e1
    injection e1 with e1
    injection e1 with e1 _ _
    have := (hc 0 h0).lt
    omega
  replace hold := Lib.hid hold
  replace ha := Lib.hid ha
  replace hz1 := Lib.hid hz1
  replace hb1 := Lib.hid hb1
  replace hB1 := Lib.hid hB1
  go_enter Try.func20, Try.ntmps20
  go_upto_region 2 with (fail)
  rw [← hW1, ← hnr, ← hnb]
  clear hW1
  replace hnr := Lib.hid hnr
  replace hnb := Lib.hid hnb
  go_wp2
  go_loopw [7, 8, 9] (fun a b i wr => ∃ (k : Nat) (f g : Bool) (lo hi : Int), k ≤ l.length ∧ (1 ≤ n ∨ k = 0) ∧ i = .int .i64 k ∧ a = .bool f ∧ b = .bool g ∧ (l.take k).foldl (loStep l n) (false, 0) = (f, lo) ∧ (l.take k).foldl (hiStep l n) (false, 0) = (g, hi) ∧ wr.heap[nb]? = some (.cells #[.int .i64 lo, .int .i64 hi] 31 (0, 0)) ∧ wr.heap[nr]? = some (.cells #[.int .i64 0, .int .i64 0] 31 (0, 0)) ∧ Below w.heap.size w wr) (fun _ _ i _ => l.length - (intOf i).toNat)
  case atStart => exact ⟨0, false, false, 0, 0, Nat.zero_le _, .inr rfl, rfl, rfl, rfl, rfl, rfl, hb1.out, hz1.out, hB1.out⟩
  case round =>
    obtain ⟨k, f, g, lo, hi, hk, hor, rfl, rfl, rfl, hst, hst2, hbest, hzero, hbel⟩ := hrel
    clear hz1 hb1 hB1
    by_cases hn1 : 1 ≤ n
    · by_cases hlt : k < l.length
      · skip
        obtain ⟨g0, off, rfl, hc⟩ := ha.out (by omega)
        have hck := cRg.grow _ _ _ _ _ (hc k hlt) hbel
        have hs1 := foldl_take (loStep l n) (false, 0) l k hlt
        have hs2 := foldl_take (hiStep l n) (false, 0) l k hlt
        rw [hst] at hs1
        rw [hst2] at hs2
        clear hc hor hst hst2
        generalize l[k] = x at hck hs1 hs2
        obtain ⟨xl, xh⟩ := x
        obtain ⟨c0, c1⟩ := hck
        dsimp only at c0 c1
        obtain ⟨cl, hcl⟩ : ∃ c, cntR l xl = c := ⟨_, rfl⟩
        obtain ⟨ch, hch⟩ : ∃ c, cntR l xh = c := ⟨_, rfl⟩
        have e1 : loStep l n (f, lo) ⟨xl, xh⟩ = if xl ≤ xh ∧ n ≤ (cl : Int) ∧ (f = false ∨ xl < lo) then (true, xl) else (f, lo) := by
          unfold loStep; rw [← hcl]
        have e2 : hiStep l n (g, hi) ⟨xl, xh⟩ = if xl ≤ xh ∧ n ≤ (ch : Int) ∧ (g = false ∨ hi < xh) then (true, xh) else (g, hi) := by
          unfold hiStep; rw [← hch]
        rw [e1] at hs1
        rw [e2] at hs2
        clear e1 e2
        replace hs1 := Lib.hid hs1
        replace hs2 := Lib.hid hs2
        replace hcl := Lib.hid hcl
        replace hch := Lib.hid hch
        replace hbest := Lib.hid hbest
        replace hzero := Lib.hid hzero
        replace hbel := Lib.hid hbel
        have hge : n ≥ 1 := hn1
        go_upto_region 6 with (fail)
        go_cut [30] (fun s wx => s = .bool (decide (xh < xl)) ∧ Below wr.heap.size wr wx)
        case first =>
          have u0 := upTo_cell c0
          have u1 := upTo_cell c1
          clear c0 c1
          refine wp_region_up (by kernel_rfl) (by kernel_rfl) ?_
          repeat (go_big_quiet_step (fail))
          refine wpQuiet_nil ?_
          intro w2 hw2
          have hb2 := up_below hw2
          clear hw2 u0 u1
          go_wp2_with fail
          go_meet
          exact ⟨rfl, hb2⟩
        case rest =>
          rename World => wx
          obtain ⟨rfl, hbx⟩ := hcut
          obtain ⟨e0, e1⟩ := cRg.grow wr wx g0 _ ⟨xl, xh⟩ ⟨c0, c1⟩ hbx
          dsimp only at e0 e1
          replace hbest := Lib.hid (at_below hbest.out hbx)
          replace hzero := Lib.hid (at_below hzero.out hbx)
          replace hbel := Lib.hid (hbel.out.trans (hbx.mono hbel.out.size))
          clear c0 c1 hbx
          by_cases hx : xh < xl
          · rw [decide_eq_true hx]
            have s1 : Hid ((l.take (k + 1)).foldl (loStep l n) (false, 0) = (f, lo)) := Lib.hid (by rw [hs1.out, if_neg (by omega)])
            have s2 : Hid ((l.take (k + 1)).foldl (hiStep l n) (false, 0) = (g, hi)) := Lib.hid (by rw [hs2.out, if_neg (by omega)])
            go_wp2
            go_roundw
            case rel => exact ⟨k + 1, f, g, lo, hi, by omega, .inl hn1, by go_num, rfl, rfl, s1.out, s2.out, hbest.out, hzero.out, hbel.out⟩
            case measure => simp [intOf]; omega
          rw [decide_eq_false hx]
          have hxx : xl ≤ xh := by omega
          have hr7 := Lib.hid (hrH.out.grow hbel.out)
          have b0 := cell_at hbest.out 0
          simp only [List.getElem?_toArray, List.getElem?_cons_zero, List.getElem?_cons_succ] at b0
          go_upto_region 7 with (fail)
          go_cut [53] (fun s wy => s = .bool (decide (n ≤ (cl : Int) ∧ (f = false ∨ xl < lo))) ∧ Below wx.heap.size wx wy)
          case first =>
            have hR : ∀ z, Calls Try.prog 22 #[.slice (some ⟨g0, off, none⟩) l.length cap, .int .i64 xl] (upTo wx z) fun r w' => r = .returned (.int .i64 (cl : Int)) ∧ ∃ y, w' = upTo wx y := fun z => by
              rw [← hcl.out]; exact call_up_eq (rCount_any _ l xl _ (hr7.out.grow (upTo_below wx z)))
            replace hR := Lib.hid hR
            have u0 := upTo_cell e0
            have u1 := upTo_cell e1
            have t0 := upTo_cell b0
            clear e0 e1 b0
            by_cases h1 : n ≤ (cl : Int)
            · have d1 : decide ((cl : Int) ≥ n) = true := by simp; omega
              cases f
              · skip
                refine wp_region_up (by kernel_rfl) (by kernel_rfl) ?_
                repeat (go_big_quiet_step ((go_at_call 22; exact hR.out _)))
                refine wpQuiet_nil ?_
                intro w2 hw2
                have hb2 := up_below hw2
                clear hw2 u0 u1 t0
                go_wp2_with fail
                go_meet
                exact ⟨by simp [h1] <;> omega, hb2⟩
              · by_cases h2 : xl < lo
                · have d2 : decide (xl < lo) = true := decide_eq_true h2
                  refine wp_region_up (by kernel_rfl) (by kernel_rfl) ?_
                  repeat (go_big_quiet_step ((go_at_call 22; exact hR.out _)))
                  refine wpQuiet_nil ?_
                  intro w2 hw2
                  have hb2 := up_below hw2
                  clear hw2 u0 u1 t0
                  go_wp2_with fail
                  go_meet
                  exact ⟨by simp [h1, h2] <;> omega, hb2⟩
                · have d2 : decide (xl < lo) = false := decide_eq_false h2
                  refine wp_region_up (by kernel_rfl) (by kernel_rfl) ?_
                  repeat (go_big_quiet_step ((go_at_call 22; exact hR.out _)))
                  refine wpQuiet_nil ?_
                  intro w2 hw2
                  have hb2 := up_below hw2
                  clear hw2 u0 u1 t0
                  go_wp2_with fail
                  go_meet
                  exact ⟨by simp [h2] <;> omega, hb2⟩
            · have d1 : decide ((cl : Int) ≥ n) = false := by simp; omega
              refine wp_region_up (by kernel_rfl) (by kernel_rfl) ?_
              repeat (go_big_quiet_step ((go_at_call 22; exact hR.out _)))
              refine wpQuiet_nil ?_
              intro w2 hw2
              have hb2 := up_below hw2
              clear hw2 u0 u1 t0
              go_wp2_with fail
              go_meet
              exact ⟨by simp [h1] <;> omega, hb2⟩
          case rest =>
            rename World => wy
            obtain ⟨rfl, hby⟩ := hcut
            obtain ⟨x0, x1⟩ := cRg.grow wx wy g0 _ ⟨xl, xh⟩ ⟨e0, e1⟩ hby
            dsimp only at x0 x1
            have hbest2 := at_below hbest.out hby
            replace hzero := Lib.hid (at_below hzero.out hby)
            replace hbel := Lib.hid (hbel.out.trans (hby.mono hbel.out.size))
            clear e0 e1 b0 hby hbest hr7
            obtain ⟨⟨f', lo'⟩, hf'⟩ : ∃ x, (if xl ≤ xh ∧ n ≤ (cl : Int) ∧ (f = false ∨ xl < lo) then (true, xl) else (f, lo)) = x := ⟨_, rfl⟩
            rw [hf'] at hs1
            go_upto_if 53 with (fail)
            go_cut [7] (fun s wz => s = .bool f' ∧ wz.heap[nb]? = some (.cells #[.int .i64 lo', .int .i64 hi] 31 (0, 0)) ∧ wz.heap[nr]? = some (.cells #[.int .i64 0, .int .i64 0] 31 (0, 0)) ∧ wz.cell? ⟨g0, off + k * 2 + 1, none⟩ = some (.int .i64 xh) ∧ wz.cell? ⟨g0, off + k * 2, none⟩ = some (.int .i64 xl) ∧ Below w.heap.size w wz)
            case first =>
              by_cases hC : n ≤ (cl : Int) ∧ (f = false ∨ xl < lo)
              · rw [decide_eq_true hC]
                rw [if_pos ⟨hxx, hC⟩] at hf'
                injection hf' with q1 q2
                subst q1 q2
                have zb0 := free_at hbest2 0
                have hset := set_at (o := 0) (u := .int .i64 xl) hbest2
                have hset' : (wy.setCell ⟨nb, 0, none⟩ (.int .i64 xl)).heap[nb]? = some (.cells #[.int .i64 xl, .int .i64 hi] 31 (0, 0)) := hset
                have b0 := cell_at hbest2 0
                simp only [List.getElem?_toArray, List.getElem?_cons_zero, List.getElem?_cons_succ] at b0
                have hcs : Chg (fun j => j = nb) wy (wy.setCell ⟨nb, 0, none⟩ (.int .i64 xl)) := chg_set (Chg.refl _ _) rfl
                have hz7 := Lib.hid (at_chg hzero.out hcs (fun e => by have : nr = nb := e; omega))
                have hg0 : ¬ g0 = nb := hold.out (by omega) g0 off rfl
                have hck7 := cRg.chg (w := wy) (x := ⟨xl, xh⟩) ⟨x0, x1⟩ hcs (fun e => hg0 e)
                obtain ⟨y0, y1⟩ := hck7
                dsimp only at y0 y1
                replace y0 := Lib.hid y0
                replace y1 := Lib.hid y1
                have hB70 : Below w.heap.size w (wy.setCell ⟨nb, 0, none⟩ (.int .i64 xl)) := hbel.out.setCell (show w.heap.size ≤ nb by omega) _
                have hB7 := Lib.hid hB70
                clear hB70
                have hnbx := at_lt hbest2
                replace hset' := Lib.hid hset'
                clear hcs hset hC hbest2
                go_wp2_with fail
                go_meet
                exact ⟨rfl, hset'.out, hz7.out, y1.out, y0.out, hB7.out⟩
              · rw [decide_eq_false hC]
                rw [if_neg (fun h => hC h.2)] at hf'
                injection hf' with q1 q2
                subst q1 q2
                replace hbest2 := Lib.hid hbest2
                clear hC
                replace x0 := Lib.hid x0
                replace x1 := Lib.hid x1
                go_wp2_with fail
                go_meet
                exact ⟨rfl, hbest2.out, hzero.out, x1.out, x0.out, hbel.out⟩
            case rest =>
              clear hbest2 hzero hbel x0 x1 hf'
              rename World => wz
              obtain ⟨rfl, hbest, hzero, x1, x0, hbel⟩ := hcut
              have hr9 := Lib.hid (hrH.out.grow hbel)
              have b0 := cell_at hbest 1
              simp only [List.getElem?_toArray, List.getElem?_cons_zero, List.getElem?_cons_succ] at b0
              replace hbest := Lib.hid hbest
              replace hzero := Lib.hid hzero
              replace hbel := Lib.hid hbel
              go_upto_region 9 with (fail)
              go_cut [82] (fun s wv => s = .bool (decide (n ≤ (ch : Int) ∧ (g = false ∨ hi < xh))) ∧ Below wz.heap.size wz wv)
              case first =>
                have hR : ∀ z, Calls Try.prog 22 #[.slice (some ⟨g0, off, none⟩) l.length cap, .int .i64 xh] (upTo wz z) fun r w' => r = .returned (.int .i64 (ch : Int)) ∧ ∃ y, w' = upTo wz y := fun z => by
                  rw [← hch.out]; exact call_up_eq (rCount_any _ l xh _ (hr9.out.grow (upTo_below wz z)))
                replace hR := Lib.hid hR
                have u0 := upTo_cell x0
                have u1 := upTo_cell x1
                have t0 := upTo_cell b0
                clear x0 x1 b0
                by_cases h1 : n ≤ (ch : Int)
                · have d1 : decide ((ch : Int) ≥ n) = true := by simp; omega
                  cases g
                  · skip
                    refine wp_region_up (by kernel_rfl) (by kernel_rfl) ?_
                    repeat (go_big_quiet_step ((go_at_call 22; exact hR.out _)))
                    refine wpQuiet_nil ?_
                    intro w2 hw2
                    have hb2 := up_below hw2
                    clear hw2 u0 u1 t0
                    go_wp2_with fail
                    go_meet
                    exact ⟨by simp [h1] <;> omega, hb2⟩
                  · by_cases h2 : hi < xh
                    · have d2 : decide (hi < xh) = true := decide_eq_true h2
                      refine wp_region_up (by kernel_rfl) (by kernel_rfl) ?_
                      repeat (go_big_quiet_step ((go_at_call 22; exact hR.out _)))
                      refine wpQuiet_nil ?_
                      intro w2 hw2
                      have hb2 := up_below hw2
                      clear hw2 u0 u1 t0
                      go_wp2_with fail
                      go_meet
                      exact ⟨by simp [h1, h2] <;> omega, hb2⟩
                    · have d2 : decide (hi < xh) = false := decide_eq_false h2
                      refine wp_region_up (by kernel_rfl) (by kernel_rfl) ?_
                      repeat (go_big_quiet_step ((go_at_call 22; exact hR.out _)))
                      refine wpQuiet_nil ?_
                      intro w2 hw2
                      have hb2 := up_below hw2
                      clear hw2 u0 u1 t0
                      go_wp2_with fail
                      go_meet
                      exact ⟨by simp [h2] <;> omega, hb2⟩
                · have d1 : decide ((ch : Int) ≥ n) = false := by simp; omega
                  refine wp_region_up (by kernel_rfl) (by kernel_rfl) ?_
                  repeat (go_big_quiet_step ((go_at_call 22; exact hR.out _)))
                  refine wpQuiet_nil ?_
                  intro w2 hw2
                  have hb2 := up_below hw2
                  clear hw2 u0 u1 t0
                  go_wp2_with fail
                  go_meet
                  exact ⟨by simp [h1] <;> omega, hb2⟩
              case rest =>
                rename World => wv
                obtain ⟨rfl, hby⟩ := hcut
                obtain ⟨y0, y1⟩ := cRg.grow wz wv g0 _ ⟨xl, xh⟩ ⟨x0, x1⟩ hby
                dsimp only at y0 y1
                have hbest2 := at_below hbest.out hby
                replace hzero := Lib.hid (at_below hzero.out hby)
                replace hbel := Lib.hid (hbel.out.trans (hby.mono hbel.out.size))
                clear x0 x1 b0 hby hbest hr9
                by_cases hC : n ≤ (ch : Int) ∧ (g = false ∨ hi < xh)
                · rw [decide_eq_true hC]
                  rw [if_pos ⟨hxx, hC⟩] at hs2
                  have zb1 := free_at hbest2 1
                  have hset := set_at (o := 1) (u := .int .i64 xh) hbest2
                  have hset' : (wv.setCell ⟨nb, 1, none⟩ (.int .i64 xh)).heap[nb]? = some (.cells #[.int .i64 lo', .int .i64 xh] 31 (0, 0)) := hset
                  have b0 := cell_at hbest2 1
                  simp only [List.getElem?_toArray, List.getElem?_cons_zero, List.getElem?_cons_succ] at b0
                  have hcs : Chg (fun j => j = nb) wv (wv.setCell ⟨nb, 1, none⟩ (.int .i64 xh)) := chg_set (Chg.refl _ _) rfl
                  have hz7 := Lib.hid (at_chg hzero.out hcs (fun e => by have : nr = nb := e; omega))
                  have hB70 : Below w.heap.size w (wv.setCell ⟨nb, 1, none⟩ (.int .i64 xh)) := hbel.out.setCell (show w.heap.size ≤ nb by omega) _
                  have hB7 := Lib.hid hB70
                  clear hB70
                  have hnbx := at_lt hbest2
                  replace hset' := Lib.hid hset'
                  clear hcs hset hC hbest2
                  go_wp2
                  go_roundw
                  case rel => exact ⟨k + 1, f', true, lo', xh, by omega, .inl hn1, by go_num, rfl, rfl, hs1.out, hs2.out, hset'.out, hz7.out, hB7.out⟩
                  case measure => simp [intOf]; omega
                · rw [decide_eq_false hC]
                  rw [if_neg (fun h => hC h.2)] at hs2
                  replace hbest2 := Lib.hid hbest2
                  clear hC
                  go_wp2
                  go_roundw
                  case rel => exact ⟨k + 1, f', g, lo', hi, by omega, .inl hn1, by go_num, rfl, rfl, hs1.out, hs2.out, hbest2.out, hzero.out, hbel.out⟩
                  case measure => simp [intOf]; omega
      · obtain rfl : k = l.length := by omega
        rw [List.take_length] at hst hst2
        have hh := M1.out hn1
        rw [hst, hst2] at hh
        clear hst hst2 hor
        have t0 := cell_at hzero 0
        have t1 := cell_at hzero 1
        have b0 := cell_at hbest 0
        have b1 := cell_at hbest 1
        simp only [List.getElem?_toArray, List.getElem?_cons_zero, List.getElem?_cons_succ] at t0 t1 b0 b1
        have zt0 := free_at hzero 0
        have zt1 := free_at hzero 1
        have hnrl := at_lt hzero
        have hn1' : ¬ nb = nr := by omega
        have hn2' : ¬ nr = nb := by omega
        have hB : ∀ x y, Below w.heap.size w ((wr.setCell ⟨nr, 0, none⟩ x).setCell ⟨nr, 1, none⟩ y) := fun x y => (hbel.setCell hwr _).setCell hwr _
        replace hB := Lib.hid hB
        clear hbel hbest hzero
        cases f
        · have hh2 : ((⟨0, 0⟩ : Rg), false) = (⟨ml, mh⟩, mo) := by rw [← hh]; rfl
          injection hh2 with a1 a2
          injection a1 with a3 a4
          subst a2 a3 a4
          clear hh
          go_wp2
          exact bodyPost_ret (v := .tuple #[.agg #[.int .i64 0, .int .i64 0], .bool false]) (by simp [results, Try.results20, go_sem, hn1', hn2', hnrl, t0, t1]) rfl ⟨rfl, hB.out _ _⟩
        · cases g
          · have hh2 : ((⟨0, 0⟩ : Rg), false) = (⟨ml, mh⟩, mo) := by rw [← hh]; rfl
            injection hh2 with a1 a2
            injection a1 with a3 a4
            subst a2 a3 a4
            clear hh
            go_wp2
            exact bodyPost_ret (v := .tuple #[.agg #[.int .i64 0, .int .i64 0], .bool false]) (by simp [results, Try.results20, go_sem, hn1', hn2', hnrl, t0, t1]) rfl ⟨rfl, hB.out _ _⟩
          · have hh2 : ((⟨lo, hi⟩ : Rg), true) = (⟨ml, mh⟩, mo) := by rw [← hh]; rfl
            injection hh2 with a1 a2
            injection a1 with a3 a4
            subst a2 a3 a4
            clear hh
            go_wp2
            exact bodyPost_ret (v := .tuple #[.agg #[.int .i64 lo, .int .i64 hi], .bool true]) (by simp [results, Try.results20, go_sem, hn1', hn2', hnrl, t0, t1]) rfl ⟨rfl, hB.out _ _⟩
    · obtain rfl : k = 0 := by omega
      have hh := M0.out (by omega)
      rw [List.take_zero] at hst hst2
      obtain ⟨rfl, rfl⟩ : false = f ∧ 0 = lo := by simpa using hst
      obtain ⟨rfl, rfl⟩ : false = g ∧ 0 = hi := by simpa using hst2
      injection hh with a1 a2
      injection a1 with a3 a4
      subst a2 a3 a4
      clear hst hst2 hor
      have hng : ¬ n ≥ 1 := hn1
      have t0 := cell_at hzero 0
      have t1 := cell_at hzero 1
      have b0 := cell_at hbest 0
      have b1 := cell_at hbest 1
      simp only [List.getElem?_toArray, List.getElem?_cons_zero, List.getElem?_cons_succ] at t0 t1 b0 b1
      have zt0 := free_at hzero 0
      have zt1 := free_at hzero 1
      have hnrl := at_lt hzero
      have hn1' : ¬ nb = nr := by omega
      have hn2' : ¬ nr = nb := by omega
      have hB : ∀ x y, Below w.heap.size w ((wr.setCell ⟨nr, 0, none⟩ x).setCell ⟨nr, 1, none⟩ y) := fun x y => (hbel.setCell hwr _).setCell hwr _
      replace hB := Lib.hid hB
      clear hbel hbest hzero
      go_wp2
      exact bodyPost_ret (v := .tuple #[.agg #[.int .i64 0, .int .i64 0], .bool false]) (by simp [results, Try.results20, go_sem, hn1', hn2', hnrl, t0, t1]) rfl ⟨rfl, hB.out _ _⟩
end Go.Proofs.Ytimffflhfaiakaa
