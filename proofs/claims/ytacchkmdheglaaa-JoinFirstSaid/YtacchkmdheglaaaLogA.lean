/- Contract: an entry is added to a log. -/
import Derived.Test.YtacchkmdheglaaaLogP
import Derived.Deep.RegionHeld3
import Derived.Deep.RegionLaw
import Derived.Deep.AppendLies
namespace Go.Proofs.Ytacchkmdheglaaa
open Go.RowKit
set_option linter.unusedVariables false

abbrev boxE (e : Ent) : Obj := .cells #[.int .i64 e.frm, .int .i64 e.boot, .int .i64 e.seq, .int .i64 e.ord, .int .i64 e.lev, .int .i64 e.stamp, .string e.data] 67

theorem lgO.end_ {w w' : World} {F : Nat → Prop} {b : Nat} {l : List Ent} (h : lgO w F b l) (hb : Below w.heap.size w w') : lgO w' (Gr F w w') b l ∧ Chg F w w' :=
  ⟨(h.grow hb).mono fun _ f => .inl f, .of_below hb⟩

set_option maxRecDepth 100000 in
set_option maxHeartbeats 1000000 in
theorem logAdd_no (b : Nat) (l : List Ent) (e : Ent) (F : Nat → Prop) (w : World) (hr : lgO w F b l) (hl : l.length ≤ 60) (hno : okAdd l e = false) :
    Calls Try.prog 53 #[.pointer (some ⟨b, 0, none⟩), e.val] w fun r w' => r = .returned (.bool false) ∧ Below w.heap.size w w' := by
  have hbx := Lib.hid (box_cells w e 67)
  have h1 := Lib.hid (hr.grow ((Below.refl _ w).alloc (Nat.le_refl _) (boxE e)))
  have hbe : Below w.heap.size w (w.alloc (boxE e)) := (Below.refl _ w).alloc (Nat.le_refl _) (boxE e)
  have hbe := Lib.hid hbe
  clear hr
  simp only [Ent.val]
  go_enter Try.func53, Try.ntmps53
  go_wp2_with fail
  refine (emay_any e _).mono ?_
  rintro r w1 ⟨rfl, hb1⟩
  have hx1 := Lib.hid (hbx.out.below hb1 hbx.out.lt)
  have hB1 := hbe.out.trans (hb1.mono hbe.out.size)
  have h2 := Lib.hid (h1.out.grow hb1)
  clear hb1 h1 hbe
  obtain ⟨d0, d1, d2, d3, d4, d5, d6⟩ := hx1.out
  rw [Nat.zero_add] at d1 d2 d3 d4 d5 d6
  cases hm : mayE e
  · go_wp2
    go_ret
    exact ⟨rfl, hB1⟩
  · go_wp2_with fail
    refine (logHas_any b l e _ h2.out.rd).mono ?_
    rintro r w2 ⟨rfl, hb2⟩
    have hB2 := hB1.trans (hb2.mono hB1.size)
    have hx2 := Lib.hid (hx1.out.below hb2 hx1.out.lt)
    have h3 := Lib.hid (h2.out.grow hb2)
    clear hb2 h2 hB1 d0 d1 d2 d3 d4 d5 d6 hx1
    obtain ⟨d0, d1, d2, d3, d4, d5, d6⟩ := hx2.out
    rw [Nat.zero_add] at d1 d2 d3 d4 d5 d6
    cases hh : hasE l e
    · obtain ⟨v, hv, hre⟩ := h3.out.rd
      obtain ⟨a, cap, rfl⟩ := hre.len
      clear hre
      by_cases h60 : l.length < 60
      · have hlt : lateE l e = true := by simp [okAdd, hm, hh, h60] at hno; exact hno
        by_cases h0 : l.length = 0
        · have : l = [] := List.length_eq_zero_iff.1 h0
          subst this
          cases hlt
        · obtain ⟨k, hln⟩ : ∃ k, l.length = k + 1 := ⟨l.length - 1, by omega⟩
          rw [hln] at hv h60 hl
          have hlk : k < l.length := by omega
          have hst2 : e.stamp < (l[k]'hlk).stamp := by
            have := (lateE_last hln e).symm.trans hlt
            simpa using this
          clear hln hlt hno h0
          go_wp2_with fail
          refine (logAt_yes b l k _ h3.out.rd hlk).mono ?_
          rintro r w3 ⟨rfl, hb3⟩
          have hB3 := hB2.trans (hb3.mono hB2.size)
          have hx3 := hx2.out.below hb3 hx2.out.lt
          have hxl := hx3.lt
          obtain ⟨e0, e1, e2, e3, e4, e5, e6⟩ := hx3
          rw [Nat.zero_add] at e1 e2 e3 e4 e5 e6
          clear hb3 hB2 hx2 d0 d1 d2 d3 d4 d5 d6 hv
          generalize l[k] = y at hst2 ⊢
          go_wp2
          go_ret
          exact ⟨rfl, hB3.alloc hB3.size _⟩
      · go_wp2
        go_ret
        exact ⟨rfl, hB2⟩
    · go_wp2
      go_ret
      exact ⟨rfl, hB2⟩

set_option maxRecDepth 100000 in
set_option maxHeartbeats 2000000 in
theorem logAdd_yes (b : Nat) (l : List Ent) (e : Ent) (F : Nat → Prop) (w : World) (hr : lgO w F b l) (hok : okAdd l e = true) :
    Calls Try.prog 53 #[.pointer (some ⟨b, 0, none⟩), e.val] w fun r w' => r = .returned (.bool true) ∧ lgO w' (Gr F w w') b (l ++ [e]) ∧ Chg F w w' := by
  obtain ⟨i0, hi, hz0, hz1, hz2⟩ := info_parts infoEnt
  simp only [okAdd, Bool.and_eq_true, Bool.not_eq_true', decide_eq_true_iff] at hok
  obtain ⟨⟨⟨hm, hh⟩, h60⟩, hlate⟩ := hok
  have hbw := hr.lt
  have hbx := Lib.hid (box_cells w e 67)
  have h1 := Lib.hid (hr.grow ((Below.refl _ w).alloc (Nat.le_refl _) (boxE e)))
  have hbe : Below w.heap.size w (w.alloc (boxE e)) := (Below.refl _ w).alloc (Nat.le_refl _) (boxE e)
  replace hbe := Lib.hid hbe
  have hlate := Lib.hid hlate
  clear hr
  simp only [Ent.val]
  go_enter Try.func53, Try.ntmps53
  go_wp2_with fail
  refine (emay_any e _).mono ?_
  rintro r w1 ⟨rfl, hb1⟩
  have hx1 := Lib.hid (hbx.out.below hb1 hbx.out.lt)
  have hB1 := hbe.out.trans (hb1.mono hbe.out.size)
  have h2 := Lib.hid (h1.out.grow hb1)
  clear hb1 h1 hbe
  obtain ⟨d0, d1, d2, d3, d4, d5, d6⟩ := hx1.out
  rw [Nat.zero_add] at d1 d2 d3 d4 d5 d6
  go_wp2_with fail
  refine (logHas_any b l e _ h2.out.rd).mono ?_
  rintro r w2 ⟨rfl, hb2⟩
  have hB2 := hB1.trans (hb2.mono hB1.size)
  have hx2 := Lib.hid (hx1.out.below hb2 hx1.out.lt)
  have h3 := Lib.hid (h2.out.grow hb2)
  clear hb2 h2 hB1 d0 d1 d2 d3 d4 d5 d6 hx1
  obtain ⟨d0, d1, d2, d3, d4, d5, d6⟩ := hx2.out
  rw [Nat.zero_add] at d1 d2 d3 d4 d5 d6
  obtain ⟨v, hv, hre⟩ := h3.out.rd
  obtain ⟨a, cap, rfl⟩ := hre.len
  clear hre
  by_cases h0 : l.length = 0
  · have : l = [] := List.length_eq_zero_iff.1 h0
    subst this
    go_wp2_with fail
    refine (logAt_no b [] 0 _ h3.out.rd (by simp)).mono ?_
    rintro r w3 ⟨rfl, hb3⟩
    have hB3 := hB2.trans (hb3.mono hB2.size)
    have hx3 := hx2.out.below hb3 hx2.out.lt
    have h4 := h3.out.grow hb3
    clear hb3 hB2 hx2 d0 d1 d2 d3 d4 d5 d6 hv h3
    go_wp2
    generalize hw4 : World.alloc w3 _ = w4
    have hb4 : Below w3.heap.size w3 w4 := hw4 ▸ (Below.refl _ _).alloc (Nat.le_refl _) _
    have hB4 := hB3.trans (hb4.mono hB3.size)
    have hx4 := hx3.below hb4 hx3.lt
    have h5 := h4.grow hb4
    clear hw4 hb4 hB3 hx3 h4
    have hrd := h5.rd
    obtain ⟨hFb, v, hvb, hvo, hvF⟩ := h5
    have hsl : ∃ ao cap, v = .slice ao 0 cap := hvo.rd.len
    obtain ⟨ao, cap, rfl⟩ := hsl
    have hcl : w4.cell? ⟨b, 0, none⟩ = some (.slice ao 0 cap) := by simp [World.cell?, hvb]
    have hbne : w.heap.size ≠ b := by omega
    have hvn : (Value.slice ao 0 cap).ownBlock ≠ some b := by
      intro h
      obtain ⟨h1, h2⟩ := hvo
      rcases h2 with ⟨h3, _⟩ | ⟨g, c, cur, h3, _, h4, _⟩
      · rw [h3] at h; cases h
      · rw [h3] at h; injection h with h; subst h
        rw [h4] at hvb; injection hvb with hvb; injection hvb with _ h5; cases h5
    have hxl := hx4.lt
    have hblt := heap_lt hvb
    have hfz4 : w4.frozen? ⟨b, 0, none⟩ = false := by simp [World.frozen?, hvb]
    have hbn4 : ¬ b = w4.heap.size := by omega
    obtain ⟨e0, e1, e2, e3, e4, e5, e6⟩ := hx4
    rw [Nat.zero_add] at e1 e2 e3 e4 e5 e6
    replace hvb := Lib.hid hvb
    replace hvo := Lib.hid hvo
    clear hrd
    go_region_law
      ((refine step_append_lies _ (by rfl) _ _ _ (by rfl) 0 67 i0 _ 7 64 Try.underlying28 hi hz0 hz1 hz2 rfl (by omega) (.slice ao 0 cap) 0 (flatE []) (by rfl) ((World.ownsRow.alloc hvo.out _).drew)
          ⟨w4.heap.size, 0, none⟩ 1 1 e.cells (by rfl) (by rfl) (World.news_of_block (cs := e.cells.toArray) (t := 67) (fr := (0, 0)) (heap_alloc_new w4 _)) (news_one e)
          (by omega) (by unfold maxLen; omega) (by omega) (by simp) (w4.heap.size + 1) (by simp) ?_; intro gg cap1 w5 hown1 hgrow hat hlt5; have hfz5 : w5.frozen? ⟨b, 0, none⟩ = false := (hgrow.frozen_far ⟨b, 0, none⟩ (by simp <;> omega) (Ne.symm hvn)).trans ((World.frozen?_alloc_old w4 _ ⟨b, 0, none⟩ hbn4).trans hfz4); have hcl5 : w5.cell? ⟨b, 0, none⟩ = some (.slice ao 0 cap) := (hgrow.cell_far ⟨b, 0, none⟩ (by simp <;> omega) (Ne.symm hvn)).trans ((World.cell?_alloc_old w4 _ ⟨b, 0, none⟩ hbn4).trans hcl)))
    all_goals
      have hfin := add_close (n := 0 + 1) (l' := [] ++ [e]) hbw hB4 hFb hvF hvb.out hvn rfl (by rw [flatE_snoc]; exact hown1) hgrow hat hlt5
      replace hfin := Lib.hid hfin
      clear hown1 hgrow hat hfz5 hcl5
      go_wp2
      go_ret
      exact ⟨rfl, hfin.out⟩
  · obtain ⟨k, hln⟩ : ∃ k, l.length = k + 1 := ⟨l.length - 1, by omega⟩
    have hlk : k < l.length := by omega
    have hv' := hv
    rw [hln] at hv
    have hst2 : ¬ e.stamp < (l[k]'hlk).stamp := by
      have := (lateE_last hln e).symm.trans hlate.out
      simpa using this
    have HLN := Lib.hid hln
    rw [hln] at h60
    go_wp2_with fail
    refine (logAt_yes b l k _ h3.out.rd hlk).mono ?_
    rintro r w3 ⟨rfl, hb3⟩
    have hB3 := hB2.trans (hb3.mono hB2.size)
    have hx3 := hx2.out.below hb3 hx2.out.lt
    have h4 := h3.out.grow hb3
    have hxl := hx3.lt
    have hx3' := hx3
    obtain ⟨e0, e1, e2, e3, e4, e5, e6⟩ := hx3'
    rw [Nat.zero_add] at e1 e2 e3 e4 e5 e6
    clear hb3 hB2 hx2 d0 d1 d2 d3 d4 d5 d6 hv h3 hln h0 hv'
    generalize l[k] = y at hst2 ⊢
    replace hst2 : y.stamp ≤ e.stamp := by omega
    have hl60 : l.length < 60 := by rw [HLN.out]; exact h60
    go_wp2
    clear e0 e1 e2 e3 e4 e5 e6 hxl
    generalize hw4 : World.alloc w3 _ = w4
    have hb4 : Below w3.heap.size w3 w4 := hw4 ▸ (Below.refl _ _).alloc (Nat.le_refl _) _
    have hB4 := hB3.trans (hb4.mono hB3.size)
    have hx4 := hx3.below hb4 hx3.lt
    have h5 := h4.grow hb4
    clear hw4 hb4 hB3 hx3 h4
    have hrd := h5.rd
    obtain ⟨hFb, v, hvb, hvo, hvF⟩ := h5
    have hsl : ∃ ao cap, v = .slice ao l.length cap := hvo.rd.len
    obtain ⟨ao, cap, rfl⟩ := hsl
    have hcl : w4.cell? ⟨b, 0, none⟩ = some (.slice ao l.length cap) := by simp [World.cell?, hvb]
    have hbne : w.heap.size ≠ b := by omega
    have hvn : (Value.slice ao l.length cap).ownBlock ≠ some b := by
      intro h
      obtain ⟨h1, h2⟩ := hvo
      rcases h2 with ⟨h3, _⟩ | ⟨g, c, cur, h3, _, h4, _⟩
      · rw [h3] at h; cases h
      · rw [h3] at h; injection h with h; subst h
        rw [h4] at hvb; injection hvb with hvb; injection hvb with _ h5; cases h5
    have hxl := hx4.lt
    have hblt := heap_lt hvb
    have hfz4 : w4.frozen? ⟨b, 0, none⟩ = false := by simp [World.frozen?, hvb]
    have hbn4 : ¬ b = w4.heap.size := by omega
    obtain ⟨e0, e1, e2, e3, e4, e5, e6⟩ := hx4
    rw [Nat.zero_add] at e1 e2 e3 e4 e5 e6
    replace hvb := Lib.hid hvb
    replace hvo := Lib.hid hvo
    clear hrd
    go_region_law
      ((refine step_append_lies _ (by rfl) _ _ _ (by rfl) 0 67 i0 _ 7 64 Try.underlying28 hi hz0 hz1 hz2 rfl (by omega) (.slice ao l.length cap) l.length (flatE l) (by rfl) ((World.ownsRow.alloc hvo.out _).drew)
          ⟨w4.heap.size, 0, none⟩ 1 1 e.cells (by rfl) (by rfl) (World.news_of_block (cs := e.cells.toArray) (t := 67) (fr := (0, 0)) (heap_alloc_new w4 _)) (news_one e)
          (by omega) (by unfold maxLen; omega) (by omega) (by simp) (w4.heap.size + 1) (by simp) ?_; intro gg cap1 w5 hown1 hgrow hat hlt5; have hfz5 : w5.frozen? ⟨b, 0, none⟩ = false := (hgrow.frozen_far ⟨b, 0, none⟩ (by simp <;> omega) (Ne.symm hvn)).trans ((World.frozen?_alloc_old w4 _ ⟨b, 0, none⟩ hbn4).trans hfz4); have hcl5 : w5.cell? ⟨b, 0, none⟩ = some (.slice ao l.length cap) := (hgrow.cell_far ⟨b, 0, none⟩ (by simp <;> omega) (Ne.symm hvn)).trans ((World.cell?_alloc_old w4 _ ⟨b, 0, none⟩ hbn4).trans hcl)))
    all_goals
      have hfin := add_close (n := l.length + 1) (l' := l ++ [e]) hbw hB4 hFb hvF hvb.out hvn (by simp) (by rw [flatE_snoc]; exact hown1) hgrow hat hlt5
      replace hfin := Lib.hid hfin
      clear hown1 hgrow hat hfz5 hcl5
      go_wp2
      go_ret
      exact ⟨rfl, hfin.out⟩
end Go.Proofs.Ytacchkmdheglaaa
