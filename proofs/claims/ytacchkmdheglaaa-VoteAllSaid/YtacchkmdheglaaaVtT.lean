/- Contract: the reference's vote that counts, when most voted. -/
import Derived.Test.YtacchkmdheglaaaVtS
namespace Go.Proofs.Ytacchkmdheglaaa
open Go.RowKit
set_option linter.unusedVariables false

set_option maxRecDepth 100000 in
set_option maxHeartbeats 4000000 in
theorem r19Best_yes (b : Nat) (view n : Int) (l : List VtS) (y0 y' : VtS) (cm' : Int) (w : World) (hr : rdVs w b view n l) (hg : goodV l) (hm : mostT (teamV l) n = true) (hl0 : 0 < l.length)
    (hy0 : y0 = l[0]) (hy : bestTo y0 l = y') (hcmt : comTo l = cm') :
    Calls Try.prog 25 #[.pointer (some ⟨b, 0, none⟩)] w fun r w' => ∃ s', r = .returned (.tuple #[.agg #[.int .i64 y'.v.frm, .int .i64 y'.v.last, s', .int .i64 (min cm' (y'.v.lg.length : Int))], .bool true]) ∧
      rdE w' s' y'.v.lg ∧ Below w.heap.size w w' := by
  replace hy := Lib.hid hy
  replace hcmt := Lib.hid hcmt
  obtain ⟨W1, hW1⟩ : ∃ W, W = w.alloc (boxV 0 0 (.slice none 0 0) 0 51) := ⟨_, rfl⟩
  have hb1 : Below w.heap.size w W1 := hW1 ▸ (Below.refl _ _).alloc (Nat.le_refl _) _
  have hn1 : W1.heap[w.heap.size]? = some (boxV 0 0 (.slice none 0 0) 0 51) := hW1 ▸ at_new _ _
  have hr1 := Lib.hid (hr.grow hb1)
  have h1u := upTo_cell hr1.out.2.1
  have HT : Hid (∀ x, Calls Try.prog 27 #[.pointer (some ⟨b, 0, none⟩)] (upTo W1 x) fun r w' => r = .returned (.int .i64 (teamV l)) ∧ ∃ y, w' = upTo W1 y) := Lib.hid fun x => call_up_eq (r19Team_any b view n l _ (hr1.out.grow (upTo_below W1 x)) hg)
  have HM : Hid (∀ x, Calls Try.prog 29 #[.int .i64 (teamV l), .int .i64 n] (upTo W1 x) fun r w' => r = .returned (.bool true) ∧ ∃ y, w' = upTo W1 y) := Lib.hid fun x => by rw [← hm]; exact call_up (rmost_any _ _ _)
  replace hm := Lib.hid hm
  obtain ⟨_, _, v, hv, hs⟩ := hr
  obtain ⟨a, cap, rfl, hcm, hM, ha⟩ := hs
  unfold maxLen at hM
  obtain ⟨g, off, rfl, hc⟩ := ha hl0
  clear ha
  have hall : ∀ x ∈ l, rdE w x.s x.v.lg := fun x hx => by
    obtain ⟨j, hj, rfl⟩ := List.getElem_of_mem hx
    exact (hc j hj).2.2.2.2
  have hmemy : ∀ k, rdE w (bestTo y0 (l.take k)).s (bestTo y0 (l.take k)).v.lg := fun k =>
    bestTo_mem y0 (l.take k) (fun x => rdE w x.s x.v.lg) (by rw [hy0]; exact hall _ (List.getElem_mem hl0)) fun x hx => hall x (List.mem_of_mem_take hx)
  have hc0 := hc 0 hl0
  rw [Nat.zero_mul, Nat.add_zero, ← hy0] at hc0
  have hblt := cell_lt hv
  have hglt := hc0.lt
  replace hc0 := Lib.hid hc0
  replace hc := Lib.hid hc
  replace hall := Lib.hid hall
  replace hmemy := Lib.hid hmemy
  replace hv := Lib.hid hv
  replace hy0 := Lib.hid hy0
  replace hn1 := Lib.hid hn1
  replace hb1 := Lib.hid hb1
  clear hr1
  go_enter Try.func25, Try.ntmps25
  go_upto_region 1 with (fail)
  rw [← hW1]
  clear hW1
  refine wp_region_up (by kernel_rfl) (by kernel_rfl) ?_
  repeat (go_big_quiet_step ((first | (go_at_call 27; exact HT.out _) | (go_at_call 29; exact HM.out _))))
  refine wpQuiet_nil ?_
  intro w2 hw2
  have hb2 := up_below hw2
  clear hw2 h1u HT HM
  have hn2 := Lib.hid (at_below hn1.out hb2)
  have hB2 := Lib.hid (hb1.out.trans (hb2.mono hb1.out.size))
  clear hb2 hn1 hb1
  have hv2 := hB2.out.cell (p := ⟨b, 2, none⟩) hblt
  rw [hv.out] at hv2
  obtain ⟨c0, c1, c2, c3, c4⟩ := cVt.grow _ _ _ _ _ hc0.out hB2.out
  obtain ⟨sa, sc, hsv⟩ := c4.len
  clear c4
  rw [hsv] at c2
  replace hsv := Lib.hid hsv
  have hblt2 : b < w2.heap.size := Nat.lt_of_lt_of_le hblt hB2.out.size
  have hglt2 : g < w2.heap.size := Nat.lt_of_lt_of_le hglt hB2.out.size
  have hw2 := hB2.out.size
  obtain ⟨b2, hb2⟩ : ∃ b2, b2 = w.heap.size := ⟨_, rfl⟩
  rw [← hb2] at hn2 ⊢
  replace hb2 := Lib.hid hb2
  have hS3 : BestAt w (w2.alloc (boxV y0.v.frm y0.v.last (.slice sa y0.v.lg.length sc) y0.v.com 51)) 51 b2 w2.heap.size y0 := ⟨at_old _ hn2.out, by rw [hsv.out]; exact at_new _ _, hB2.out.alloc hw2 _⟩
  have hb4 : b2 < w2.heap.size := at_lt hn2.out
  replace hS3 := Lib.hid hS3
  go_wp2
  clear c0 c1 c2 c3 hv2
  go_loopw [5, 6] (fun c i wr => ∃ k : Nat, k ≤ l.length ∧ i = .int .i64 k ∧ c = .int .i64 (comTo (l.take k)) ∧ BestAt w wr 51 b2 w2.heap.size (bestTo y0 (l.take k))) (fun _ i _ => l.length - (intOf i).toNat)
  case atStart => exact ⟨0, Nat.zero_le _, rfl, rfl, hS3.out⟩
  case round =>
    obtain ⟨k, hk, rfl, rfl, hat⟩ := hrel
    clear hS3
    have hbel := hat.bel
    have hb24 : b2 ≠ w2.heap.size := by omega
    have hyr := hmemy.out k
    have hvr := hbel.cell (p := ⟨b, 2, none⟩) hblt
    rw [hv.out] at hvr
    have hbr : b < wr.heap.size := Nat.lt_of_lt_of_le hblt hbel.size
    by_cases hlt : k < l.length
    · have hck := cVt.grow _ _ _ _ _ (hc.out k hlt) hbel
      have hst := Lib.hid (bestTo_take y0 l k hlt)
      have hct := Lib.hid (comTo_take l k hlt)
      generalize l[k] = x at hck hst hct
      generalize bestTo y0 (l.take k) = y at hat hyr hst
      generalize comTo (l.take k) = cm at hct ⊢
      obtain ⟨d0, d1, d2, d3, d4⟩ := hck
      obtain ⟨sx, cx, hsx⟩ := d4.len
      obtain ⟨sy, cy, hsy⟩ := hyr.len
      rw [hsx] at d2
      have hlt4 := at_lt hat.best
      have hne4 : ¬ w2.heap.size = wr.heap.size := by omega
      have hne7 : ¬ wr.heap.size = w2.heap.size := by omega
      have hgr : ¬ g = wr.heap.size := by have := cell_lt d0; omega
      have hat5 := hat.grow (w' := wr.alloc (boxV x.v.frm x.v.last (.slice sx x.v.lg.length cx) x.v.com 51)) ((Below.refl _ _).alloc (Nat.le_refl _) _)
      have hn7 := at_new wr (boxV x.v.frm x.v.last (.slice sx x.v.lg.length cx) x.v.com 51)
      have hbc := better_cases x.v y.v
      clear hyr hbel d4
      replace hat5 := Lib.hid hat5
      replace hat := Lib.hid hat
      replace hn7 := Lib.hid hn7
      replace hsx := Lib.hid hsx
      replace hsy := Lib.hid hsy
      replace hbc := Lib.hid hbc
      go_upto_region 9 with (fail)
      generalize World.alloc wr _ = w6 at hat5 hn7 ⊢
      generalize wr.heap.size = b7 at hn7 hne4 hne7 hgr ⊢
      clear d0 d1 d2 d3 hvr
      have f0 := cell_at hn7.out 0
      have f1 := cell_at hn7.out 1
      have f2 := cell_at hn7.out 2
      have f3 := cell_at hn7.out 3
      have e0 := cell_at hat5.out.best 0
      have e1 := cell_at hat5.out.best 1
      have e2 := cell_at hat5.out.best 2
      have e3 := cell_at hat5.out.best 3
      have z0 := free_at hat5.out.best 0
      have z1 := free_at hat5.out.best 1
      have z2 := free_at hat5.out.best 2
      have z3 := free_at hat5.out.best 3
      simp only [List.getElem?_toArray, List.getElem?_cons_zero, List.getElem?_cons_succ] at f0 f1 f2 f3 e0 e1 e2 e3
      rw [hsy.out] at e2
      go_cut [5] (fun s wx => s = .int .i64 (max cm x.v.com) ∧ w6 = wx)
      case first =>
        by_cases hmx : cm ≤ x.v.com
        · go_wp2_with fail
          all_goals
            go_meet
            exact ⟨by congr 1; omega, rfl⟩
        · go_wp2_with fail
          all_goals
            go_meet
            exact ⟨by congr 1; omega, rfl⟩
      case rest =>
        obtain ⟨rfl, rfl⟩ := hcut
        go_upto_region 10 with (fail)
        go_cut [79] (fun s wx => s = .bool (betterV x.v y.v) ∧ w6 = wx)
        case first =>
          rcases hbc.out with ⟨h1, h2⟩ | ⟨h1, h2⟩ | ⟨h1, h2, h3⟩ | ⟨h1, h2, h3⟩ | ⟨h1, h2, h3⟩
          · replace h2 := Lib.hid h2
            go_wp2_with fail
            go_meet
            exact ⟨by rw [h2.out], rfl⟩
          · replace h2 := Lib.hid h2
            have d : (x.v.last == y.v.last) = false := by simp; omega
            have d' : decide (y.v.last < x.v.last) = false := by simp; omega
            go_wp2_with fail
            go_meet
            exact ⟨by rw [h2.out], rfl⟩
          · replace h3 := Lib.hid h3
            have d : (x.v.last == y.v.last) = true := by simp; omega
            have d' : decide (y.v.last < x.v.last) = false := by simp; omega
            clear h1
            go_wp2_with fail
            go_meet
            exact ⟨by rw [h3.out], rfl⟩
          · replace h3 := Lib.hid h3
            have d : (x.v.last == y.v.last) = true := by simp; omega
            have d' : decide (y.v.last < x.v.last) = false := by simp; omega
            have d1 : (x.v.lg.length == y.v.lg.length) = false := by simp; omega
            have d2 : ((x.v.lg.length : Int) == (y.v.lg.length : Int)) = false := by simp; omega
            have d3 : decide (y.v.lg.length < x.v.lg.length) = false := by simp; omega
            clear h1
            go_wp2_with fail
            go_meet
            exact ⟨by rw [h3.out], rfl⟩
          · replace h3 := Lib.hid h3
            have d : (x.v.last == y.v.last) = true := by simp; omega
            have d' : decide (y.v.last < x.v.last) = false := by simp; omega
            have d1 : (x.v.lg.length == y.v.lg.length) = true := by simp; omega
            have d2 : ((x.v.lg.length : Int) == (y.v.lg.length : Int)) = true := by simp; omega
            have d3 : decide (y.v.lg.length < x.v.lg.length) = false := by simp; omega
            clear h1 h2
            go_wp2_with fail
            go_meet
            exact ⟨by rw [h3.out], rfl⟩
        case rest =>
          obtain ⟨rfl, rfl⟩ := hcut
          have hput := hat5.out.put hb24 hw2 x
          rw [hsx.out] at hput
          replace hput := Lib.hid hput
          cases hbt : betterV x.v y.v
          · rw [hbt, if_neg Bool.false_ne_true] at hst
            go_wp2
            go_roundw
            case rel => exact ⟨k + 1, by omega, by go_num, by rw [hct.out], by rw [hst.out]; exact hat5.out⟩
            case measure => simp [intOf]; omega
          · rw [hbt, if_pos rfl] at hst
            go_wp2
            go_roundw
            case rel => exact ⟨k + 1, by omega, by go_num, by rw [hct.out], by rw [hst.out]; exact hput.out⟩
            case measure => simp [intOf]; omega
    · obtain rfl : k = l.length := by omega
      rw [List.take_length, hy.out] at hat hyr
      rw [List.take_length, hcmt.out]
      clear hy hcmt
      obtain ⟨sy, cy, hsy⟩ := hyr.len
      have q0 := cell_at hat.best 0
      have q1 := cell_at hat.best 1
      have q2 := cell_at hat.best 2
      have q3 := cell_at hat.best 3
      have z3 := free_at hat.best 3
      have r0 := cell_at hat.res 0
      have r1 := cell_at hat.res 1
      have r2 := cell_at hat.res 2
      have r3 := cell_at hat.res 3
      have t0 := free_at hat.res 0
      have t1 := free_at hat.res 1
      have t2 := free_at hat.res 2
      have t3 := free_at hat.res 3
      simp only [List.getElem?_toArray, List.getElem?_cons_zero, List.getElem?_cons_succ] at q0 q1 q2 q3 r0 r1 r2 r3
      rw [hsy] at q2 hyr
      have hl8 := at_lt hat.best
      have hl9 := at_lt hat.res
      have hne24 : ¬ w2.heap.size = b2 := by omega
      have hne42 : ¬ b2 = w2.heap.size := by omega
      have hfin : ∀ b c d e f, rdE (((((wr.setCell ⟨w2.heap.size, 3, none⟩ b).setCell ⟨b2, 0, none⟩ c).setCell ⟨b2, 1, none⟩ d).setCell ⟨b2, 2, none⟩ e).setCell ⟨b2, 3, none⟩ f) (.slice sy y'.v.lg.length cy) y'.v.lg ∧
          Below w.heap.size w (((((wr.setCell ⟨w2.heap.size, 3, none⟩ b).setCell ⟨b2, 0, none⟩ c).setCell ⟨b2, 1, none⟩ d).setCell ⟨b2, 2, none⟩ e).setCell ⟨b2, 3, none⟩ f) := by
        intro b c d e f
        have hF : Chg (fun k => k = w2.heap.size ∨ k = b2) wr (((((wr.setCell ⟨w2.heap.size, 3, none⟩ b).setCell ⟨b2, 0, none⟩ c).setCell ⟨b2, 1, none⟩ d).setCell ⟨b2, 2, none⟩ e).setCell ⟨b2, 3, none⟩ f) :=
          chg_set (chg_set (chg_set (chg_set (chg_set (Chg.refl _ _) (.inl rfl)) (.inr rfl)) (.inr rfl)) (.inr rfl)) (.inr rfl)
        have hB := hat.bel.trans (hF.below hat.bel.size fun k hk => by
          have := hb2.out
          rcases hk with rfl | rfl <;> omega)
        exact ⟨hyr.grow hB, hB⟩
      clear hyr hbel
      replace hfin := Lib.hid hfin
      replace hat := Lib.hid hat
      replace hsy := Lib.hid hsy
      by_cases hmn : cm' ≤ (y'.v.lg.length : Int)
      · have hmin : min cm' (y'.v.lg.length : Int) = cm' := by omega
        replace hmin := Lib.hid hmin
        go_wp2
        exact bodyPost_ret (v := .tuple #[.agg #[.int .i64 y'.v.frm, .int .i64 y'.v.last, .slice sy y'.v.lg.length cy, .int .i64 cm'], .bool true]) (by simp [results, Try.results25, go_sem, hne24, hne42, hl9, r0, r1, r2, r3]) rfl ⟨_, by rw [hmin.out], hfin.out _ _ _ _ _⟩
      · have hmin : min cm' (y'.v.lg.length : Int) = y'.v.lg.length := by omega
        replace hmin := Lib.hid hmin
        go_wp2
        exact bodyPost_ret (v := .tuple #[.agg #[.int .i64 y'.v.frm, .int .i64 y'.v.last, .slice sy y'.v.lg.length cy, .int .i64 (y'.v.lg.length : Int)], .bool true]) (by simp [results, Try.results25, go_sem, hne24, hne42, hl9, r0, r1, r2, r3]) rfl ⟨_, by rw [hmin.out], hfin.out _ _ _ _ _⟩
end Go.Proofs.Ytacchkmdheglaaa
