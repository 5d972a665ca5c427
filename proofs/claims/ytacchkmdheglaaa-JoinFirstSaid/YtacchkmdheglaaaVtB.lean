/- Contract: the vote that counts. -/
import Derived.Test.YtacchkmdheglaaaVtA
import Derived.Test.YtacchkmdheglaaaBox
namespace Go.Proofs.Ytacchkmdheglaaa
open Go.RowKit
set_option linter.unusedVariables false

abbrev boxV (f l : Int) (s : Value) (c : Int) (T : TypeId) : Obj := .cells #[.int .i64 f, .int .i64 l, s, .int .i64 c] T

set_option maxRecDepth 100000 in
set_option maxHeartbeats 1000000 in
theorem vBest_no (b : Nat) (view n : Int) (l : List VtS) (w : World) (hr : rdVs w b view n l) (hm : mostT (teamV l) n = false) :
    Calls Try.prog 24 #[.pointer (some ⟨b, 0, none⟩)] w fun r w' => r = .returned (.tuple #[.agg #[.int .i64 0, .int .i64 0, .slice none 0 0, .int .i64 0], .bool false]) ∧ Below w.heap.size w w' := by
  have hb1 : Below w.heap.size w (w.alloc (boxV 0 0 (.slice none 0 0) 0 47)) := (Below.refl _ _).alloc (Nat.le_refl _) _
  have hr1 := Lib.hid (hr.grow hb1)
  replace hm := Lib.hid hm
  clear hr
  go_enter Try.func24, Try.ntmps24
  go_wp2_with fail
  refine (vEnough_any b view n l _ hr1.out).mono ?_
  rintro r w2 ⟨rfl, hb2⟩
  rw [hm.out]
  obtain ⟨hc, hf⟩ := bcell hb2
  have hz : w.heap.size < w2.heap.size := by have := hb2.size; simp at this; omega
  go_wp2
  exact bodyPost_ret (v := .tuple #[.agg #[.int .i64 0, .int .i64 0, .slice none 0 0, .int .i64 0], .bool false]) (by simp [results, Try.results24, go_sem, hc, hz]) rfl ⟨rfl, (((((hb1.trans (hb2.mono hb1.size))).setCell (Nat.le_refl _) _).setCell (Nat.le_refl _) _).setCell (Nat.le_refl _) _).setCell (Nat.le_refl _) _⟩

def zV : List Value := [.int .i64 0, .int .i64 0, .slice none 0 0, .int .i64 0]
structure BestAt (w wr : World) (T : TypeId) (b2 b4 : Nat) (y : VtS) : Prop where
  res : wr.heap[b2]? = some (.cells #[.int .i64 0, .int .i64 0, .slice none 0 0, .int .i64 0] T (0, 0))
  best : wr.heap[b4]? = some (.cells #[.int .i64 y.v.frm, .int .i64 y.v.last, y.s, .int .i64 y.v.com] T (0, 0))
  bel : Below w.heap.size w wr

theorem BestAt.grow {w wr w' : World} {T : TypeId} {b2 b4 : Nat} {y : VtS} (h : BestAt w wr T b2 b4 y) (hb : Below wr.heap.size wr w') : BestAt w w' T b2 b4 y :=
  ⟨at_below h.res hb, at_below h.best hb, h.bel.trans (hb.mono h.bel.size)⟩
theorem set4 {w : World} {g : Nat} {a b c d : Value} {E : TypeId} (h : w.heap[g]? = some (.cells #[a, b, c, d] E (0, 0))) (p q r s : Value) :
    ((((w.setCell ⟨g, 0, none⟩ p).setCell ⟨g, 1, none⟩ q).setCell ⟨g, 2, none⟩ r).setCell ⟨g, 3, none⟩ s).heap[g]? = some (.cells #[p, q, r, s] E (0, 0)) := by
  have h1 := set_at (o := 0) (u := p) h
  have h2 := set_at (o := 1) (u := q) h1
  have h3 := set_at (o := 2) (u := r) h2
  have h4 := set_at (o := 3) (u := s) h3
  exact h4
theorem BestAt.put {w wr : World} {T : TypeId} {b2 b4 : Nat} {y : VtS} (h : BestAt w wr T b2 b4 y) (hne : b2 ≠ b4) (hge : w.heap.size ≤ b4) (x : VtS) :
    BestAt w ((((wr.setCell ⟨b4, 0, none⟩ (.int .i64 x.v.frm)).setCell ⟨b4, 1, none⟩ (.int .i64 x.v.last)).setCell ⟨b4, 2, none⟩ x.s).setCell ⟨b4, 3, none⟩ (.int .i64 x.v.com)) T b2 b4 x :=
  ⟨set_far (set_far (set_far (set_far h.res hne) hne) hne) hne, set4 h.best _ _ _ _, (((h.bel.setCell hge _).setCell hge _).setCell hge _).setCell hge _⟩

theorem chg_set {F : Nat → Prop} {w w' : World} {g o : Nat} {u : Value} (h : Chg F w w') (hg : F g) : Chg F w (w'.setCell ⟨g, o, none⟩ u) :=
  ⟨h.os, h.tape, h.output, by rw [World.size_setCell]; exact h.size, fun k hk hF => by rw [Below.heap_setCell _ _ _ _ (fun e => hF (by rw [show k = g from e]; exact hg))]; exact h.block k hk hF⟩

set_option maxRecDepth 100000 in
set_option maxHeartbeats 2000000 in
theorem vBest_yes (b : Nat) (view n : Int) (l : List VtS) (y0 y' : VtS) (cm' : Int) (w : World) (hr : rdVs w b view n l) (hm : mostT (teamV l) n = true) (hl0 : 0 < l.length) (hl : ∀ x ∈ l, x.v.lg.length ≤ 60)
    (hy0 : y0 = l[0]) (hy : bestTo y0 l = y') (hcmt : comTo l = cm') :
    Calls Try.prog 24 #[.pointer (some ⟨b, 0, none⟩)] w fun r w' => ∃ s', r = .returned (.tuple #[.agg #[.int .i64 y'.v.frm, .int .i64 y'.v.last, s', .int .i64 (min cm' (y'.v.lg.length : Int))], .bool true]) ∧
      ownE w' w.heap.size 67 s' y'.v.lg ∧ Below w.heap.size w w' := by
  replace hy := Lib.hid hy
  replace hcmt := Lib.hid hcmt
  have hb1 : Below w.heap.size w (w.alloc (boxV 0 0 (.slice none 0 0) 0 47)) := (Below.refl _ _).alloc (Nat.le_refl _) _
  have hr1 := Lib.hid (hr.grow hb1)
  have hn1 := at_new w (boxV 0 0 (.slice none 0 0) 0 47)
  obtain ⟨_, _, v, hv, hs⟩ := hr
  obtain ⟨a, cap, rfl, hcm, hM, ha⟩ := hs
  unfold maxLen at hM
  obtain ⟨g, off, rfl, hc⟩ := ha hl0
  clear ha
  have hall : ∀ x ∈ l, rdE w x.s x.v.lg := fun x hx => by
    obtain ⟨j, hj, rfl⟩ := List.getElem_of_mem hx
    exact (hc j hj).2.2.2.2
  have hmemy : ∀ k, rdE w (bestTo y0 (l.take k)).s (bestTo y0 (l.take k)).v.lg ∧ (bestTo y0 (l.take k)).v.lg.length ≤ 60 := fun k =>
    bestTo_mem y0 (l.take k) (fun x => rdE w x.s x.v.lg ∧ x.v.lg.length ≤ 60) (by rw [hy0]; exact ⟨hall _ (List.getElem_mem hl0), hl _ (List.getElem_mem hl0)⟩) fun x hx => ⟨hall x (List.mem_of_mem_take hx), hl x (List.mem_of_mem_take hx)⟩
  have hc0 := hc 0 hl0
  rw [Nat.zero_mul, Nat.add_zero, ← hy0] at hc0
  have hblt := cell_lt hv
  have hglt := hc0.lt
  replace hc0 := Lib.hid hc0
  replace hc := Lib.hid hc
  replace hall := Lib.hid hall
  replace hmemy := Lib.hid hmemy
  replace hv := Lib.hid hv
  replace hy0 := Lib.hid hy0
  replace hm := Lib.hid hm
  replace hl := Lib.hid hl
  replace hn1 := Lib.hid hn1
  replace hb1 := Lib.hid hb1
  go_enter Try.func24, Try.ntmps24
  go_wp2_with fail
  refine (vEnough_any b view n l _ hr1.out).mono ?_
  rintro r w2 ⟨rfl, hb2⟩
  rw [hm.out]
  have hn2 := Lib.hid (at_below hn1.out hb2)
  have hB2 := Lib.hid (hb1.out.trans (hb2.mono hb1.out.size))
  clear hb2 hn1 hb1 hr1
  have hv2 := hB2.out.cell (p := ⟨b, 2, none⟩) hblt
  rw [hv.out] at hv2
  obtain ⟨c0, c1, c2, c3, c4⟩ := cVt.grow _ _ _ _ _ hc0.out hB2.out
  obtain ⟨sa, sc, hsv⟩ := c4.len
  clear c4
  rw [hsv] at c2
  replace hsv := Lib.hid hsv
  have hblt2 : b < w2.heap.size := Nat.lt_of_lt_of_le hblt hB2.out.size
  have hglt2 : g < w2.heap.size := Nat.lt_of_lt_of_le hglt hB2.out.size
  have hw2 := hB2.out.size
  obtain ⟨b2, hb2⟩ : ∃ b2, b2 = w.heap.size := ⟨_, rfl⟩
  rw [← hb2] at hn2 ⊢
  replace hb2 := Lib.hid hb2
  have hS3 : BestAt w (w2.alloc (boxV y0.v.frm y0.v.last (.slice sa y0.v.lg.length sc) y0.v.com 47)) 47 b2 w2.heap.size y0 := ⟨at_old _ hn2.out, by rw [hsv.out]; exact at_new _ _, hB2.out.alloc hw2 _⟩
  have hb4 : b2 < w2.heap.size := at_lt hn2.out
  replace hS3 := Lib.hid hS3
  go_wp2
  clear c0 c1 c2 c3 hv2
  go_loopw [5, 23] (fun c i wr => ∃ k : Nat, k ≤ l.length ∧ i = .int .i64 k ∧ c = .int .i64 (comTo (l.take k)) ∧ BestAt w wr 47 b2 w2.heap.size (bestTo y0 (l.take k))) (fun _ i _ => l.length - (intOf i).toNat)
  case atStart => exact ⟨0, Nat.zero_le _, rfl, rfl, hS3.out⟩
  case round =>
    obtain ⟨k, hk, rfl, rfl, hat⟩ := hrel
    clear hS3
    have hbel := hat.bel
    have hb24 : b2 ≠ w2.heap.size := by omega
    obtain ⟨hyr, hy60⟩ := hmemy.out k
    by_cases hlt : k < l.length
    · have hck := cVt.grow _ _ _ _ _ (hc.out k hlt) hbel
      have hst := Lib.hid (bestTo_take y0 l k hlt)
      have hct := Lib.hid (comTo_take l k hlt)
      generalize l[k] = x at hck hst hct
      generalize bestTo y0 (l.take k) = y at hat hyr hy60 hst
      generalize comTo (l.take k) = cm at hct ⊢
      have hyr' := hyr.grow hbel
      obtain ⟨d0, d1, d2, d3, d4⟩ := hck
      obtain ⟨sx, cx, hsx⟩ := d4.len
      obtain ⟨sy, cy, hsy⟩ := hyr.len
      have e0 := cell_at hat.best 0
      have e1 := cell_at hat.best 1
      have e2 := cell_at hat.best 2
      have e3 := cell_at hat.best 3
      simp only [List.getElem?_toArray, List.getElem?_cons_zero, List.getElem?_cons_succ] at e0 e1 e2 e3
      rw [hsx] at d2
      rw [hsy] at e2
      have hlt4 := at_lt hat.best
      have hne4 : ¬ w2.heap.size = wr.heap.size := by omega
      have hgr : ¬ g = wr.heap.size := by have := cell_lt d0; omega
      have hb7 : Below wr.heap.size wr (wr.alloc (boxV x.v.frm x.v.last (.slice sx x.v.lg.length cx) x.v.com 47)) := (Below.refl _ _).alloc (Nat.le_refl _) _
      have hx5 := d4.grow hb7
      have hy5 := hyr'.grow hb7
      have hat5 := hat.grow hb7
      have hn7 := at_new wr (boxV x.v.frm x.v.last (.slice sx x.v.lg.length cx) x.v.com 47)
      rw [hsx] at hx5
      rw [hsy] at hy5
      clear hyr hyr' hbel d4 hb7
      replace hx5 := Lib.hid hx5
      replace hy5 := Lib.hid hy5
      replace hat5 := Lib.hid hat5
      replace hat := Lib.hid hat
      replace hn7 := Lib.hid hn7
      replace hsx := Lib.hid hsx
      replace hsy := Lib.hid hsy
      go_wp2_with fail
      refine (vBetter_any x.v y.v _ _ _ hx5.out hy5.out).mono ?_
      rintro r w6 ⟨rfl, hb6⟩
      have hat6 := hat5.out.grow hb6
      have hn6 := at_below hn7.out hb6
      have f0 := cell_at hn6 0
      have f1 := cell_at hn6 1
      have f2 := cell_at hn6 2
      have f3 := cell_at hn6 3
      simp only [List.getElem?_toArray, List.getElem?_cons_zero, List.getElem?_cons_succ] at f0 f1 f2 f3
      have hge : w.heap.size ≤ w2.heap.size := hw2
      have hput := hat6.put hb24 hge x
      rw [hsx.out] at hput
      have h60 := hb6.size
      have hz6 : wr.heap.size < w6.heap.size := at_lt hn6
      clear e0 e1 e2 e3 d0 d1 d2 d3 hx5 hy5 hat5 hn7 hat hb6
      have e0 := cell_at hat6.best 0
      have e1 := cell_at hat6.best 1
      have e2 := cell_at hat6.best 2
      have e3 := cell_at hat6.best 3
      simp only [List.getElem?_toArray, List.getElem?_cons_zero, List.getElem?_cons_succ] at e0 e1 e2 e3
      have z0 := free_at hat6.best 0
      have z1 := free_at hat6.best 1
      have z2 := free_at hat6.best 2
      have z3 := free_at hat6.best 3
      have hne7 : ¬ wr.heap.size = w2.heap.size := by omega
      rw [hsy.out] at e2
      replace hat6 := Lib.hid hat6
      replace hput := Lib.hid hput
      replace hn6 := Lib.hid hn6
      by_cases hmx : cm ≤ x.v.com
      all_goals cases hbt : betterV x.v y.v
      · rw [hbt, if_neg Bool.false_ne_true] at hst
        go_wp2
        go_roundw
        case rel => exact ⟨k + 1, by omega, by go_num, by rw [hct.out]; congr 1; omega, by rw [hst.out]; exact hat6.out⟩
        case measure => simp [intOf]; omega
      · rw [hbt, if_pos rfl] at hst
        go_wp2
        go_roundw
        case rel => exact ⟨k + 1, by omega, by go_num, by rw [hct.out]; congr 1; omega, by rw [hst.out]; exact hput.out⟩
        case measure => simp [intOf]; omega
      · rw [hbt, if_neg Bool.false_ne_true] at hst
        go_wp2
        go_roundw
        case rel => exact ⟨k + 1, by omega, by go_num, by rw [hct.out]; congr 1; omega, by rw [hst.out]; exact hat6.out⟩
        case measure => simp [intOf]; omega
      · rw [hbt, if_pos rfl] at hst
        go_wp2
        go_roundw
        case rel => exact ⟨k + 1, by omega, by go_num, by rw [hct.out]; congr 1; omega, by rw [hst.out]; exact hput.out⟩
        case measure => simp [intOf]; omega
    · obtain rfl : k = l.length := by omega
      rw [List.take_length, hy.out] at hat hyr hy60
      rw [List.take_length, hcmt.out]
      clear hy hcmt
      obtain ⟨sy, cy, hsy⟩ := hyr.len
      have hyr' := hyr.grow hbel
      rw [hsy] at hyr'
      have e2 := cell_at hat.best 2
      simp only [List.getElem?_toArray, List.getElem?_cons_zero, List.getElem?_cons_succ] at e2
      rw [hsy] at e2
      have hlt4 := at_lt hat.best
      replace hat := Lib.hid hat
      replace hyr' := Lib.hid hyr'
      replace hbel := Lib.hid hbel
      clear hyr
      replace hsy := Lib.hid hsy
      go_wp2_with fail
      refine (sClone_any _ y'.v.lg _ hyr'.out (by omega)).mono ?_
      rintro r w8 ⟨s', rfl, ho8, hb8⟩
      obtain ⟨sa', sc', rfl⟩ := ho8.rd.len
      have hat8 := hat.out.grow hb8
      have q0 := cell_at hat8.best 0
      have q1 := cell_at hat8.best 1
      have q2 := cell_at hat8.best 2
      have q3 := cell_at hat8.best 3
      have z2 := free_at hat8.best 2
      have z3 := free_at hat8.best 3
      have r0 := cell_at hat8.res 0
      have r1 := cell_at hat8.res 1
      have r2 := cell_at hat8.res 2
      have r3 := cell_at hat8.res 3
      have t0 := free_at hat8.res 0
      have t1 := free_at hat8.res 1
      have t2 := free_at hat8.res 2
      have t3 := free_at hat8.res 3
      simp only [List.getElem?_toArray, List.getElem?_cons_zero, List.getElem?_cons_succ] at q0 q1 q2 q3 r0 r1 r2 r3
      rw [hsy.out] at q2
      have hl8 := at_lt hat8.best
      have hl9 := at_lt hat8.res
      have hne24 : ¬ w2.heap.size = b2 := by omega
      have hne42 : ¬ b2 = w2.heap.size := by omega
      have hw2' : b2 ≤ w2.heap.size := by omega
      have hfin : ∀ a b c d e f, ownE ((((((w8.setCell ⟨w2.heap.size, 2, none⟩ a).setCell ⟨w2.heap.size, 3, none⟩ b).setCell ⟨b2, 0, none⟩ c).setCell ⟨b2, 1, none⟩ d).setCell ⟨b2, 2, none⟩ e).setCell ⟨b2, 3, none⟩ f) w.heap.size 67 (.slice sa' y'.v.lg.length sc') y'.v.lg ∧
          Below w.heap.size w ((((((w8.setCell ⟨w2.heap.size, 2, none⟩ a).setCell ⟨w2.heap.size, 3, none⟩ b).setCell ⟨b2, 0, none⟩ c).setCell ⟨b2, 1, none⟩ d).setCell ⟨b2, 2, none⟩ e).setCell ⟨b2, 3, none⟩ f) := by
        intro a b c d e f
        have hF : Chg (fun k => k = w2.heap.size ∨ k = b2) w8 ((((((w8.setCell ⟨w2.heap.size, 2, none⟩ a).setCell ⟨w2.heap.size, 3, none⟩ b).setCell ⟨b2, 0, none⟩ c).setCell ⟨b2, 1, none⟩ d).setCell ⟨b2, 2, none⟩ e).setCell ⟨b2, 3, none⟩ f) :=
          chg_set (chg_set (chg_set (chg_set (chg_set (chg_set (Chg.refl _ _) (.inl rfl)) (.inl rfl)) (.inr rfl)) (.inr rfl)) (.inr rfl)) (.inr rfl)
        refine ⟨ownE_base (ho8.chg hF fun k hk => ?_) hbel.out.size, hat8.bel.trans (hF.below hat8.bel.size fun k hk => ?_)⟩
        · have := (ho8.lt k hk).1
          rintro (rfl | rfl) <;> omega
        · have := hb2.out
          rcases hk with rfl | rfl <;> omega
      clear e2
      replace hfin := Lib.hid hfin
      replace hat8 := Lib.hid hat8
      replace ho8 := Lib.hid ho8
      replace hb8 := Lib.hid hb8
      by_cases hmn : cm' ≤ (y'.v.lg.length : Int)
      · have hmin : min cm' (y'.v.lg.length : Int) = cm' := by omega
        replace hmin := Lib.hid hmin
        go_wp2
        exact bodyPost_ret (v := .tuple #[.agg #[.int .i64 y'.v.frm, .int .i64 y'.v.last, .slice sa' y'.v.lg.length sc', .int .i64 cm'], .bool true]) (by simp [results, Try.results24, go_sem, hne24, hne42, hl9, r0, r1, r2, r3]) rfl ⟨_, by rw [hmin.out], hfin.out _ _ _ _ _ _⟩
      · have hmin : min cm' (y'.v.lg.length : Int) = y'.v.lg.length := by omega
        replace hmin := Lib.hid hmin
        go_wp2
        exact bodyPost_ret (v := .tuple #[.agg #[.int .i64 y'.v.frm, .int .i64 y'.v.last, .slice sa' y'.v.lg.length sc', .int .i64 (y'.v.lg.length : Int)], .bool true]) (by simp [results, Try.results24, go_sem, hne24, hne42, hl9, r0, r1, r2, r3]) rfl ⟨_, by rw [hmin.out], hfin.out _ _ _ _ _ _⟩
end Go.Proofs.Ytacchkmdheglaaa
