/- Contract: the reference's Add. -/
import Derived.Test.YtacchkmdheglaaaLogP
import Derived.Test.YtacchkmdheglaaaEntM
import Derived.Test.YtacchkmdheglaaaUp
namespace Go.Proofs.Ytacchkmdheglaaa
open Go.RowKit
set_option linter.unusedVariables false

set_option maxRecDepth 100000 in
set_option maxHeartbeats 1000000 in
theorem r12Add_no (v : Value) (l : List Ent) (e : Ent) (w : World) (hr : ownE w 0 67 v l) (hno : okAdd l e = false) (hl : l.length ≤ 1000) :
    Calls Try.prog 49 #[v, e.val] w fun r w' => r = .returned (.tuple #[v, .bool false]) ∧ Below w.heap.size w w' := by
  have hbx := box_cells w e 67
  have hbe : Below w.heap.size w (w.alloc (.cells #[.int .i64 e.frm, .int .i64 e.boot, .int .i64 e.seq, .int .i64 e.ord, .int .i64 e.lev, .int .i64 e.stamp, .string e.data] 67)) := (Below.refl _ w).alloc (Nat.le_refl _) _
  have h1 := ownE_grow hr hbe
  replace hbe := Lib.hid hbe
  replace hbx := Lib.hid hbx
  have hs := hr.rd.len
  obtain ⟨a, cap, rfl⟩ := hs
  clear hr
  simp only [Ent.val]
  go_enter Try.func49, Try.ntmps49
  go_wp2
  generalize hW : World.alloc w _ = W
  rw [hW] at h1 hbx hbe
  clear hW
  obtain ⟨d0, d1, d2, d3, d4, d5, d6⟩ := hbx.out
  rw [Nat.zero_add] at d1 d2 d3 d4 d5 d6
  have c0 := upTo_cell d0
  have c1 := upTo_cell d1
  have c2 := upTo_cell d2
  have c3 := upTo_cell d3
  have c4 := upTo_cell d4
  have c5 := upTo_cell d5
  have c6 := upTo_cell d6
  clear d0 d1 d2 d3 d4 d5 d6
  have hrd := Lib.hid h1.rd
  clear h1
  have HM : ∀ b, mayE e = b → Hid (∀ x, Calls Try.prog 57 #[e.val] (upTo W x) fun r w' => r = .returned (.bool b) ∧ ∃ y, w' = upTo W y) := fun b h x => by
    rw [← h]; exact call_up (rmay12_any e (upTo W x))
  have HH : ∀ b, hasE l e = b → Hid (∀ x, Calls Try.prog 58 #[.slice a l.length cap, e.val] (upTo W x) fun r w' => r = .returned (.bool b) ∧ ∃ y, w' = upTo W y) := fun b h x => by
    rw [← h]; exact call_up (r12Has_any (.slice a l.length cap) l e (upTo W x) (hrd.out.grow (upTo_below W x)))
  cases hm : mayE e
  · have hM := HM _ hm
    clear HM HH
    refine wp_region_up (by kernel_rfl) (by kernel_rfl) ?_
    repeat (go_big_quiet_step ((go_at_call 57; exact hM.out _)))
    refine wpQuiet_nil ?_
    intro w2 hw2
    have hb2 := up_below hw2
    clear hw2
    have hB := hbe.out.trans (hb2.mono hbe.out.size)
    clear hb2 c0 c1 c2 c3 c4 c5 c6
    go_wp2
    go_ret2
    exact ⟨rfl, hB⟩
  · have hM := HM _ hm
    clear HM
    cases hh : hasE l e
    · have hH := HH _ hh
      clear HH
      by_cases h60 : l.length < 60
      · have hlt : lateE l e = true := by simp [okAdd, hm, hh, h60] at hno; exact hno
        by_cases h0 : l.length = 0
        · have : l = [] := List.length_eq_zero_iff.1 h0
          subst this
          cases hlt
        · obtain ⟨k, hln⟩ : ∃ k, l.length = k + 1 := ⟨l.length - 1, by omega⟩
          have hlk : k < l.length := by omega
          have hst2 : e.stamp < (l[k]'hlk).stamp := by
            have := (lateE_last hln e).symm.trans hlt
            simpa using this
          obtain ⟨a', cap', he, hm', hM', ha⟩ := hrd.out
          injection he with he1 he2 he3
          subst he1 he3
          obtain ⟨bl, off, rfl, hc⟩ := ha (by omega)
          have hck := upTo_cell (hc k hlk).2.2.2.2.2.1
          have hH' := hH.out
          rw [hln] at hH' h60
          replace hH' := Lib.hid hH'
          have hg1 : decide ((60 : Int) ≤ (k : Int) + 1) = false := by simp; omega
          have hg2 : decide ((0 : Int) < (k : Int) + 1) = true := by simp <;> omega
          rw [hln] at hl
          rw [hln]
          have HL := Lib.hid hln
          clear hc ha hM' hm' hln hlt hno h0 hH hrd
          generalize l[k] = y at hst2 hck
          have hg3 : decide (e.stamp < y.stamp) = true := by simpa using hst2
          refine wp_region_up (by kernel_rfl) (by kernel_rfl) ?_
          repeat (go_big_quiet_step ((first | (go_at_call 57; exact hM.out _) | (go_at_call 58; exact hH'.out _))))
          refine wpQuiet_nil ?_
          intro w2 hw2
          have hb2 := up_below hw2
          clear hw2
          have hB := hbe.out.trans (hb2.mono hbe.out.size)
          clear hb2 c0 c1 c2 c3 c4 c5 c6 hck
          go_wp2
          go_ret2
          exact ⟨by rw [HL.out]; rfl, hB⟩
      · have h0 : decide ((60 : Int) ≤ (l.length : Int)) = true := by simp; omega
        refine wp_region_up (by kernel_rfl) (by kernel_rfl) ?_
        repeat (go_big_quiet_step ((first | (go_at_call 57; exact hM.out _) | (go_at_call 58; exact hH.out _))))
        refine wpQuiet_nil ?_
        intro w2 hw2
        have hb2 := up_below hw2
        clear hw2
        have hB := hbe.out.trans (hb2.mono hbe.out.size)
        clear hb2 c0 c1 c2 c3 c4 c5 c6
        go_wp2
        go_ret2
        exact ⟨rfl, hB⟩
    · have hH := HH _ hh
      clear HH
      refine wp_region_up (by kernel_rfl) (by kernel_rfl) ?_
      repeat (go_big_quiet_step ((first | (go_at_call 57; exact hM.out _) | (go_at_call 58; exact hH.out _))))
      refine wpQuiet_nil ?_
      intro w2 hw2
      have hb2 := up_below hw2
      clear hw2
      have hB := hbe.out.trans (hb2.mono hbe.out.size)
      clear hb2 c0 c1 c2 c3 c4 c5 c6
      go_wp2
      go_ret2
      exact ⟨rfl, hB⟩

/-- the box behind an append to nil -/
theorem box_grown {w2 w3 : World} {b : Nat} {e : Ent} (h : w2.cell? ⟨b, 0, none⟩ = some (.int .i64 e.frm) ∧ w2.cell? ⟨b, 1, none⟩ = some (.int .i64 e.boot) ∧ w2.cell? ⟨b, 2, none⟩ = some (.int .i64 e.seq) ∧
    w2.cell? ⟨b, 3, none⟩ = some (.int .i64 e.ord) ∧ w2.cell? ⟨b, 4, none⟩ = some (.int .i64 e.lev) ∧ w2.cell? ⟨b, 5, none⟩ = some (.int .i64 e.stamp) ∧ w2.cell? ⟨b, 6, none⟩ = some (.string e.data))
    (hg : w2.drew.grownBy w3 (Value.slice none 0 0).ownBlock) (hb : b < w2.heap.size) : cellsE w3 b 0 e := by
  have k : ∀ o, w3.cell? ⟨b, o, none⟩ = w2.cell? ⟨b, o, none⟩ := fun o => hg.cell_far ⟨b, o, none⟩ hb (by simp [Value.ownBlock])
  unfold cellsE
  simp only [Nat.zero_add, k]; exact h
theorem box_grown' {w2 w3 : World} {b : Nat} {e : Ent} {X : Obj} (h : w2.cell? ⟨b, 0, none⟩ = some (.int .i64 e.frm) ∧ w2.cell? ⟨b, 1, none⟩ = some (.int .i64 e.boot) ∧ w2.cell? ⟨b, 2, none⟩ = some (.int .i64 e.seq) ∧
    w2.cell? ⟨b, 3, none⟩ = some (.int .i64 e.ord) ∧ w2.cell? ⟨b, 4, none⟩ = some (.int .i64 e.lev) ∧ w2.cell? ⟨b, 5, none⟩ = some (.int .i64 e.stamp) ∧ w2.cell? ⟨b, 6, none⟩ = some (.string e.data))
    (hg : (w2.alloc X).drew.grownBy w3 (Value.slice none 0 0).ownBlock) (hb : b < w2.heap.size) : cellsE w3 b 0 e := by
  have k : ∀ o, w3.cell? ⟨b, o, none⟩ = w2.cell? ⟨b, o, none⟩ := fun o =>
    (hg.cell_far ⟨b, o, none⟩ (by simp; omega) (by simp [Value.ownBlock])).trans (World.cell?_alloc_old w2 X ⟨b, o, none⟩ (by show b ≠ _; omega))
  unfold cellsE
  simp only [Nat.zero_add, k]; exact h

set_option maxRecDepth 100000 in
set_option maxHeartbeats 2000000 in
theorem r12Add_yes (v : Value) (l : List Ent) (e : Ent) (w : World) (hr : ownE w 0 67 v l) (hok : okAdd l e = true) :
    Calls Try.prog 49 #[v, e.val] w fun r w' => ∃ v', r = .returned (.tuple #[v', .bool true]) ∧ ownE w' w.heap.size 67 v' (l ++ [e]) ∧ Below w.heap.size w w' := by
  obtain ⟨i0, hi, hz0, hz1, hz2⟩ := info_parts infoEnt
  simp only [okAdd, Bool.and_eq_true, Bool.not_eq_true', decide_eq_true_iff] at hok
  obtain ⟨⟨⟨hm, hh⟩, h60⟩, hlate⟩ := hok
  have hbx := box_cells w e 67
  have hbe : Below w.heap.size w (w.alloc (.cells #[.int .i64 e.frm, .int .i64 e.boot, .int .i64 e.seq, .int .i64 e.ord, .int .i64 e.lev, .int .i64 e.stamp, .string e.data] 67)) := (Below.refl _ w).alloc (Nat.le_refl _) _
  have h1 := ownE_grow hr hbe
  replace hbe := Lib.hid hbe
  replace hbx := Lib.hid hbx
  have hs := hr.rd.len
  obtain ⟨a, cap, rfl⟩ := hs
  clear hr
  simp only [Ent.val]
  go_enter Try.func49, Try.ntmps49
  go_wp2
  generalize hW : World.alloc w _ = W
  rw [hW] at h1 hbx hbe
  clear hW
  obtain ⟨d0, d1, d2, d3, d4, d5, d6⟩ := hbx.out
  rw [Nat.zero_add] at d1 d2 d3 d4 d5 d6
  have c0 := upTo_cell d0
  have c1 := upTo_cell d1
  have c2 := upTo_cell d2
  have c3 := upTo_cell d3
  have c4 := upTo_cell d4
  have c5 := upTo_cell d5
  have c6 := upTo_cell d6
  clear d0 d1 d2 d3 d4 d5 d6
  have hrd := Lib.hid h1.rd
  replace h1 := Lib.hid h1
  have hM : Hid (∀ x, Calls Try.prog 57 #[e.val] (upTo W x) fun r w' => r = .returned (.bool true) ∧ ∃ y, w' = upTo W y) := fun x => by
    rw [← hm]; exact call_up (rmay12_any e (upTo W x))
  have hH : Hid (∀ x, Calls Try.prog 58 #[.slice a l.length cap, e.val] (upTo W x) fun r w' => r = .returned (.bool false) ∧ ∃ y, w' = upTo W y) := fun x => by
    rw [← hh]; exact call_up (r12Has_any (.slice a l.length cap) l e (upTo W x) (hrd.out.grow (upTo_below W x)))
  clear hm hh
  have hg1 : decide ((60 : Int) ≤ (l.length : Int)) = false := by simp; omega
  by_cases h0 : l.length = 0
  · have hg2 : decide (0 < l.length) = false := by rw [h0]; rfl
    clear h0
    refine wp_region_up (by kernel_rfl) (by kernel_rfl) ?_
    repeat (go_big_quiet_step ((first | (go_at_call 57; exact hM.out _) | (go_at_call 58; exact hH.out _))))
    refine wpQuiet_nil ?_
    intro w2 hw2
    have hb2 := up_below hw2
    clear hw2
    have hB := hbe.out.trans (hb2.mono hbe.out.size)
    have h2 := ownE_grow h1.out hb2
    have hx2 := hbx.out.below hb2 hbx.out.lt
    have hBs := hB.size
    have hxl := hx2.lt
    clear hb2 c0 c1 c2 c3 c4 c5 c6 hrd hH hM h1 hbx hbe
    obtain ⟨d0, d1, d2, d3, d4, d5, d6⟩ := hx2
    rw [Nat.zero_add] at d1 d2 d3 d4 d5 d6
    replace h2 := Lib.hid h2
    go_wp2
    go_region_law (first
      | (refine step_app _ (by rfl) (.const (.slice none 0 0)) (.tmp 37) _ (by rfl) w.heap.size 0 67 i0 _ 7 64 Try.underlying28 hi hz0 hz1 hz2 rfl (by omega) (.slice none 0 0) 0 [] (by rfl) (World.ownsRow_nil _ _ _ _) _ l.length (flatE l) (by rfl) (by first | exact h2.out.drew | exact (World.ownsRow.alloc h2.out _).drew) (flatE_one l) (by unfold maxLen; omega) (by omega) (by simp <;> omega) ?_; intro v3 w3 ho3 hg3 hat3; simp only [Nat.zero_add, List.nil_append] at ho3; have hb3 : Below w.heap.size w w3 := (by first | exact (hB.drew).grown hg3 (by simp <;> omega) (fun k hk => by cases hk) | exact ((hB.alloc hBs _).drew).grown hg3 (by simp <;> omega) (fun k hk => by cases hk)); have hx3 : cellsE w3 w.heap.size 0 e := (by first | exact box_grown ⟨d0, d1, d2, d3, d4, d5, d6⟩ hg3 hxl | exact box_grown' ⟨d0, d1, d2, d3, d4, d5, d6⟩ hg3 hxl); obtain ⟨f0, f1, f2, f3, f4, f5, f6⟩ := hx3; rw [Nat.zero_add] at f1 f2 f3 f4 f5 f6)
      | (refine step_append_lies _ (by rfl) (.tmp 38) (.tmp 40) _ (by rfl) w.heap.size 67 i0 _ 7 64 Try.underlying28 hi hz0 hz1 hz2 rfl (by omega) v3 l.length (flatE l) (by rfl) (World.ownsRow.alloc ho3 _) ⟨w3.heap.size, 0, none⟩ 1 1 e.cells (by rfl) (by rfl) (World.news_of_block (cs := e.cells.toArray) (t := 67) (fr := (0, 0)) (heap_alloc_new w3 _)) (news_one e) (by omega) (by unfold maxLen; omega) (by omega) (by have := hb3.size; simp <;> omega) _ rfl ?_; intro gg cap1 w5 hown1 hgrow hat hlt5)
      | (refine step_append_lies _ (by rfl) (.tmp 38) (.tmp 40) _ (by rfl) w.heap.size 67 i0 _ 7 64 Try.underlying28 hi hz0 hz1 hz2 rfl (by omega) v3 l.length (flatE l) (by rfl) ho3 ⟨w2.heap.size, 0, none⟩ 1 1 e.cells (by rfl) (by rfl) (World.news_of_block (cs := e.cells.toArray) (t := 67) (fr := (0, 0)) ((hg3.block w2.heap.size (by simp) (by simp [Value.ownBlock])).trans (heap_alloc_new w2 _))) (news_one e) (by omega) (by unfold maxLen; omega) (by omega) hb3.size _ rfl ?_; intro gg cap1 w5 hown1 hgrow hat hlt5))
    all_goals
      have hb5 : Below w.heap.size w w5 := by first | exact (hb3.alloc hb3.size _).grown hgrow (by have := hb3.size; simp <;> omega) (fun k hk => (World.ownsRow.lt ho3 k hk).1) | exact hb3.grown hgrow hb3.size (fun k hk => (World.ownsRow.lt ho3 k hk).1)
      have ho : ownE w5 w.heap.size 67 (.slice (some ⟨gg, 0, none⟩) (l.length + 1) cap1) (l ++ [e]) := by rw [ownE, flatE_snoc, List.length_append]; exact hown1
      clear hown1 hgrow hat hlt5 f0 f1 f2 f3 f4 f5 f6 ho3 hg3 hat3 hb3
      go_wp2
      go_ret2
      exact ⟨_, rfl, ho, hb5⟩
  · obtain ⟨k, hln⟩ : ∃ k, l.length = k + 1 := ⟨l.length - 1, by omega⟩
    have hlk : k < l.length := by omega
    have hst2 : ¬ e.stamp < (l[k]'hlk).stamp := by
      have := (lateE_last hln e).symm.trans hlate
      simpa using this
    obtain ⟨a', cap', he, hm', hM', ha⟩ := hrd.out
    injection he with he1 he2 he3
    subst he1 he3
    obtain ⟨bl, off, rfl, hc⟩ := ha (by omega)
    have hck := upTo_cell (hc k hlk).2.2.2.2.2.1
    have hH' := hH.out
    rw [hln] at hH'
    replace hH' := Lib.hid hH'
    have hl60 := h60
    rw [hln] at hg1
    have hg2 : decide (0 < k + 1) = true := by simp
    have hg1 : decide ((60 : Int) ≤ (k : Int) + 1) = false := by simp; omega
    rw [hln]
    have HL := Lib.hid hln
    clear hc ha hM' hm' hln h0 hH hrd
    generalize l[k] = y at hst2 hck
    have hg3 : decide (e.stamp < y.stamp) = false := by simpa using hst2
    refine wp_region_up (by kernel_rfl) (by kernel_rfl) ?_
    repeat (go_big_quiet_step ((first | (go_at_call 57; exact hM.out _) | (go_at_call 58; exact hH'.out _))))
    refine wpQuiet_nil ?_
    intro w2 hw2
    have hb2 := up_below hw2
    clear hw2
    have hB := hbe.out.trans (hb2.mono hbe.out.size)
    have h2 : ownE w2 0 67 (.slice (some ⟨bl, off, none⟩) (k + 1) cap) l := by rw [← HL.out]; exact ownE_grow h1.out hb2
    have hx2 := hbx.out.below hb2 hbx.out.lt
    have hBs := hB.size
    have hxl := hx2.lt
    clear hb2 c0 c1 c2 c3 c4 c5 c6 hck hH' hM h1 hbx hbe hg1 hg2 hg3 hst2
    obtain ⟨d0, d1, d2, d3, d4, d5, d6⟩ := hx2
    rw [Nat.zero_add] at d1 d2 d3 d4 d5 d6
    replace h2 := Lib.hid h2
    go_wp2
    go_region_law (first
      | (refine step_app _ (by rfl) (.const (.slice none 0 0)) (.tmp 37) _ (by rfl) w.heap.size 0 67 i0 _ 7 64 Try.underlying28 hi hz0 hz1 hz2 rfl (by omega) (.slice none 0 0) 0 [] (by rfl) (World.ownsRow_nil _ _ _ _) _ l.length (flatE l) (by rfl) (by first | exact h2.out.drew | exact (World.ownsRow.alloc h2.out _).drew) (flatE_one l) (by unfold maxLen; omega) (by omega) (by simp <;> omega) ?_; intro v3 w3 ho3 hg3 hat3; simp only [Nat.zero_add, List.nil_append] at ho3; have hb3 : Below w.heap.size w w3 := (by first | exact (hB.drew).grown hg3 (by simp <;> omega) (fun k hk => by cases hk) | exact ((hB.alloc hBs _).drew).grown hg3 (by simp <;> omega) (fun k hk => by cases hk)); have hx3 : cellsE w3 w.heap.size 0 e := (by first | exact box_grown ⟨d0, d1, d2, d3, d4, d5, d6⟩ hg3 hxl | exact box_grown' ⟨d0, d1, d2, d3, d4, d5, d6⟩ hg3 hxl); obtain ⟨f0, f1, f2, f3, f4, f5, f6⟩ := hx3; rw [Nat.zero_add] at f1 f2 f3 f4 f5 f6)
      | (refine step_append_lies _ (by rfl) (.tmp 38) (.tmp 40) _ (by rfl) w.heap.size 67 i0 _ 7 64 Try.underlying28 hi hz0 hz1 hz2 rfl (by omega) v3 l.length (flatE l) (by rfl) (World.ownsRow.alloc ho3 _) ⟨w3.heap.size, 0, none⟩ 1 1 e.cells (by rfl) (by rfl) (World.news_of_block (cs := e.cells.toArray) (t := 67) (fr := (0, 0)) (heap_alloc_new w3 _)) (news_one e) (by omega) (by unfold maxLen; omega) (by omega) (by have := hb3.size; simp <;> omega) _ rfl ?_; intro gg cap1 w5 hown1 hgrow hat hlt5)
      | (refine step_append_lies _ (by rfl) (.tmp 38) (.tmp 40) _ (by rfl) w.heap.size 67 i0 _ 7 64 Try.underlying28 hi hz0 hz1 hz2 rfl (by omega) v3 l.length (flatE l) (by rfl) ho3 ⟨w2.heap.size, 0, none⟩ 1 1 e.cells (by rfl) (by rfl) (World.news_of_block (cs := e.cells.toArray) (t := 67) (fr := (0, 0)) ((hg3.block w2.heap.size (by simp) (by simp [Value.ownBlock])).trans (heap_alloc_new w2 _))) (news_one e) (by omega) (by unfold maxLen; omega) (by omega) hb3.size _ rfl ?_; intro gg cap1 w5 hown1 hgrow hat hlt5))
    all_goals
      have hb5 : Below w.heap.size w w5 := by first | exact (hb3.alloc hb3.size _).grown hgrow (by have := hb3.size; simp <;> omega) (fun k hk => (World.ownsRow.lt ho3 k hk).1) | exact hb3.grown hgrow hb3.size (fun k hk => (World.ownsRow.lt ho3 k hk).1)
      have ho : ownE w5 w.heap.size 67 (.slice (some ⟨gg, 0, none⟩) (l.length + 1) cap1) (l ++ [e]) := by rw [ownE, flatE_snoc, List.length_append]; exact hown1
      clear hown1 hgrow hat hlt5 f0 f1 f2 f3 f4 f5 f6 ho3 hg3 hat3 hb3
      go_wp2
      go_ret2
      exact ⟨_, rfl, ho, hb5⟩
end Go.Proofs.Ytacchkmdheglaaa
