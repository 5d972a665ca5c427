/- One that comes back: what may be taken. -/
import Derived.Test.YtacchkmdheglaaaJnA
namespace Go.Proofs.Ytacchkmdheglaaa
open Go.RowKit
set_option linter.unusedVariables false

theorem rdE_nil1 (w : World) : rdE w (.slice none 0 0) [] := ⟨none, 0, rfl, Nat.zero_le _, Nat.zero_le _, fun h => by simp at h⟩

set_option maxRecDepth 100000 in
set_option maxHeartbeats 4000000 in
theorem jMay_any (b : Nat) (me n boot promise : Int) (m0 : Mg) (got : Bool) (m : Mg) (w : World) (hj : jnO w b me n boot promise m0 got)
    (hk : m.kind = 11) (ht : m.too = me) (hy : m.yes = true) (hn : m.num = boot) (hf : m.frm = decT m.view n) (hv1 : 1 ≤ m.view) (hv2 : m.view ≤ 9223372036854775807) (hm0 : 0 ≤ m.mem ∧ m.mem < 128) (hmo : mostT m.mem n = true) (hha : hasT m.mem.toNat m.frm = true) (hc : m.com = 0) :
    Calls Try.prog 38 #[.pointer (some ⟨b, 0, none⟩), m.val] w fun r w' => r = .returned (.bool (decide (promise ≤ m.view))) ∧ Below w.heap.size w w' := by
  obtain ⟨kind, frm, too, mboot, view, last, mem, pos, com, num, clock, yes⟩ := m
  dsimp only at hk ht hy hn hf hv1 hv2 hm0 hmo hha hc
  subst hk ht hy hn hc
  simp only [Mg.val]
  obtain ⟨M, hM⟩ : ∃ M, M = (⟨11, frm, too, mboot, view, last, mem, pos, 0, num, clock, true⟩ : Mg) := ⟨_, rfl⟩
  obtain ⟨W1, hW1⟩ : ∃ W, W = w.alloc (Mg.box ⟨11, frm, too, mboot, view, last, mem, pos, 0, num, clock, true⟩ 30) := ⟨_, rfl⟩
  have hB1 : Below w.heap.size w W1 := hW1 ▸ (Below.refl _ _).alloc (Nat.le_refl _) _
  have hx1 : W1.heap[w.heap.size]? = some (Mg.box ⟨11, frm, too, mboot, view, last, mem, pos, 0, num, clock, true⟩ 30) := hW1 ▸ at_new _ _
  have hj1 := hj.below hB1
  unfold jnO at hj1
  have f0 := cell_at hx1 0
  have f1 := cell_at hx1 1
  have f2 := cell_at hx1 2
  have f4 := cell_at hx1 4
  have f6 := cell_at hx1 6
  have f8 := cell_at hx1 8
  have f9 := cell_at hx1 9
  have f10 := cell_at hx1 10
  have f12 := cell_at hx1 12
  have e0 := cell_at hj1 0
  have e1 := cell_at hj1 1
  have e2 := cell_at hj1 2
  have e3 := cell_at hj1 3
  simp only [List.getElem?_toArray, List.getElem?_cons_zero, List.getElem?_cons_succ] at f0 f1 f2 f4 f6 f8 f9 f10 f12
  simp only [List.getElem?_toArray, List.getElem?_cons_zero, List.getElem?_cons_succ] at e0 e1 e2 e3
  replace hx1 := Lib.hid hx1
  replace hj1 := Lib.hid hj1
  replace hB1 := Lib.hid hB1
  replace hf := Lib.hid hf
  clear hj
  clear M hM
  obtain ⟨nb, hnb⟩ : ∃ nb, nb = w.heap.size := ⟨_, rfl⟩
  rw [← hnb] at hx1 f0 f1 f2 f4 f6 f8 f9 f10 f12
  have HD : Hid (∀ y, Calls Try.prog 36 #[.int .i64 view, .int .i64 n] (upTo W1 y) fun r w' => r = .returned (.int .i64 frm) ∧ ∃ z, w' = upTo W1 z) := Lib.hid fun y => by rw [hf.out]; exact call_up_eq (decider_any view n _ (by omega) hv2)
  go_enter Try.func38, Try.ntmps38
  go_upto_region 1 with (fail)
  rw [← hW1, ← hnb]
  clear hW1
  replace hnb := Lib.hid hnb

  have u0 := upTo_cell f0
  have u1 := upTo_cell f1
  have u2 := upTo_cell f2
  have u4 := upTo_cell f4
  have u6 := upTo_cell f6
  have u8 := upTo_cell f8
  have u9 := upTo_cell f9
  have u10 := upTo_cell f10
  have u12 := upTo_cell f12
  have v0 := upTo_cell e0
  have v1 := upTo_cell e1
  have v2 := upTo_cell e2
  have v3 := upTo_cell e3
  replace hmo := Lib.hid hmo
  replace hha := Lib.hid hha
  replace hm0 := Lib.hid hm0
  by_cases hp : promise < 1
  · have hlt : decide (view < 1) = false := by simp; omega
    refine wp_region_up (by kernel_rfl) (by kernel_rfl) ?_
    repeat (go_big_quiet_step ((go_at_call 36; exact HD.out _)))
    refine wpQuiet_nil ?_
    intro w2 hw2
    have hb2 := up_below hw2
    clear hw2 u0 u1 u2 u4 u6 u8 u9 u10 u12 v0 v1 v2 v3
    have hB2 := hB1.out.trans (hb2.mono hB1.out.size)
    have k0 := at_below hx1.out hb2
    have k1 := at_below hj1.out hb2
    have q1 := cell_at k0 1
    have q6 := cell_at k0 6
    have q8 := cell_at k0 8
    have q9 := cell_at k0 9
    have p1 := cell_at k1 1
    simp only [List.getElem?_toArray, List.getElem?_cons_zero, List.getElem?_cons_succ] at q1 q6 q8 q9
    simp only [List.getElem?_toArray, List.getElem?_cons_zero, List.getElem?_cons_succ] at p1
    clear f0 f1 f2 f4 f6 f8 f9 f10 f12 e0 e1 e2 e3
    replace k0 := Lib.hid k0
    replace k1 := Lib.hid k1
    go_upto_region 4 with (fail)
    have r1 := upTo_cell q1
    have r6 := upTo_cell q6
    have r8 := upTo_cell q8
    have r9 := upTo_cell q9
    have o1 := upTo_cell p1
    refine wp_region_pl w2 (.q 0 (.q 1 (.q 2 (.q 3 (.q 4 (.l 5 (.q 6 (.q 7 (.q 8 (.q 9 (.l 10 (.q 11 (.q 12 (.q 13 (.q 14 (.q 17 (.q 18 (.q 19 (.l 15 (.l 16 (.q 20 (.q 21 (.q 22 (.q 23 (.q 24 (.q 25 (.q 26 (.q 27 (.q 28 (.q 29 (.q 30 .fin))))))))))))))))))))))))))))))) (by kernel_rfl) (by kernel_rfl) (Below.refl _ _) ?_
    intro y0 hheap hv0 hbw
    clear hheap hbw
    iterate 5 (refine pl_q rfl ?_; go_big_quiet_step (fail); refine wpQuiet_nil ?_)
    refine pl_l rfl (by kernel_rfl) ?_
    intro K hK
    go_simp
    refine (most_any mem n _).mono ?_
    rintro r y1 ⟨rfl, rfl⟩
    rw [hmo.out]
    refine hK w2 _ _ (Below.refl _ _) hv0 ?_
    clear hK K
    iterate 4 (refine pl_q rfl ?_; go_big_quiet_step (fail); refine wpQuiet_nil ?_)
    refine pl_l rfl (by kernel_rfl) ?_
    intro K hK
    go_simp
    refine (has_any mem frm _ hm0.out).mono ?_
    rintro r y1 ⟨rfl, rfl⟩
    rw [hha.out]
    refine hK w2 _ _ (Below.refl _ _) hv0 ?_
    clear hK K
    iterate 7 (refine pl_q rfl ?_; go_big_quiet_step (fail); refine wpQuiet_nil ?_)
    refine pl_l rfl (by kernel_rfl) ?_
    intro K hK
    go_simp
    refine (logNew_any _ [] _ (rdE_nil1 _)).mono ?_
    rintro r y1 ⟨bl, rfl, hbl, hlg, hbb⟩
    have hv1' := hv0.trans (hbb.mono hv0.size)
    have hlr := Lib.hid hlg.rd
    refine hK w2 _ _ (Below.refl _ _) hv1' ?_
    clear hK K hbb hlg hbl
    refine pl_l rfl (by kernel_rfl) ?_
    intro K hK
    go_simp
    refine (logLen_any bl _ _ hlr.out).mono ?_
    rintro r y2 ⟨rfl, rfl⟩
    rw [show ((logE []).length : Int) = 0 from rfl]
    refine hK w2 _ _ (Below.refl _ _) hv1' ?_
    clear hK K
    iterate 11 (refine pl_q rfl ?_; go_big_quiet_step (fail); refine wpQuiet_nil ?_)
    refine pl_fin ?_
    go_wp2_with fail
    go_ret
    exact ⟨ret_bool (by simp <;> omega), hB2.trans (hv1'.mono hB2.size)⟩

  · by_cases hv : view < promise
    · have hlt : decide (view < promise) = true := by simpa using hv
      refine wp_region_up (by kernel_rfl) (by kernel_rfl) ?_
      repeat (go_big_quiet_step ((go_at_call 36; exact HD.out _)))
      refine wpQuiet_nil ?_
      intro w2 hw2
      have hb2 := up_below hw2
      clear hw2 u0 u1 u2 u4 u6 u8 u9 u10 u12 v0 v1 v2 v3
      have hB2 := hB1.out.trans (hb2.mono hB1.out.size)
      go_wp2
      go_ret
      exact ⟨ret_bool (by simp <;> omega), hB2⟩
    · have hlt : decide (view < promise) = false := by simpa using hv
      refine wp_region_up (by kernel_rfl) (by kernel_rfl) ?_
      repeat (go_big_quiet_step ((go_at_call 36; exact HD.out _)))
      refine wpQuiet_nil ?_
      intro w2 hw2
      have hb2 := up_below hw2
      clear hw2 u0 u1 u2 u4 u6 u8 u9 u10 u12 v0 v1 v2 v3
      have hB2 := hB1.out.trans (hb2.mono hB1.out.size)
      have k0 := at_below hx1.out hb2
      have k1 := at_below hj1.out hb2
      have q1 := cell_at k0 1
      have q6 := cell_at k0 6
      have q8 := cell_at k0 8
      have q9 := cell_at k0 9
      have p1 := cell_at k1 1
      simp only [List.getElem?_toArray, List.getElem?_cons_zero, List.getElem?_cons_succ] at q1 q6 q8 q9
      simp only [List.getElem?_toArray, List.getElem?_cons_zero, List.getElem?_cons_succ] at p1
      clear f0 f1 f2 f4 f6 f8 f9 f10 f12 e0 e1 e2 e3
      replace k0 := Lib.hid k0
      replace k1 := Lib.hid k1
      go_upto_region 4 with (fail)
      have r1 := upTo_cell q1
      have r6 := upTo_cell q6
      have r8 := upTo_cell q8
      have r9 := upTo_cell q9
      have o1 := upTo_cell p1
      refine wp_region_pl w2 (.q 0 (.q 1 (.q 2 (.q 3 (.q 4 (.l 5 (.q 6 (.q 7 (.q 8 (.q 9 (.l 10 (.q 11 (.q 12 (.q 13 (.q 14 (.q 17 (.q 18 (.q 19 (.l 15 (.l 16 (.q 20 (.q 21 (.q 22 (.q 23 (.q 24 (.q 25 (.q 26 (.q 27 (.q 28 (.q 29 (.q 30 .fin))))))))))))))))))))))))))))))) (by kernel_rfl) (by kernel_rfl) (Below.refl _ _) ?_
      intro y0 hheap hv0 hbw
      clear hheap hbw
      iterate 5 (refine pl_q rfl ?_; go_big_quiet_step (fail); refine wpQuiet_nil ?_)
      refine pl_l rfl (by kernel_rfl) ?_
      intro K hK
      go_simp
      refine (most_any mem n _).mono ?_
      rintro r y1 ⟨rfl, rfl⟩
      rw [hmo.out]
      refine hK w2 _ _ (Below.refl _ _) hv0 ?_
      clear hK K
      iterate 4 (refine pl_q rfl ?_; go_big_quiet_step (fail); refine wpQuiet_nil ?_)
      refine pl_l rfl (by kernel_rfl) ?_
      intro K hK
      go_simp
      refine (has_any mem frm _ hm0.out).mono ?_
      rintro r y1 ⟨rfl, rfl⟩
      rw [hha.out]
      refine hK w2 _ _ (Below.refl _ _) hv0 ?_
      clear hK K
      iterate 7 (refine pl_q rfl ?_; go_big_quiet_step (fail); refine wpQuiet_nil ?_)
      refine pl_l rfl (by kernel_rfl) ?_
      intro K hK
      go_simp
      refine (logNew_any _ [] _ (rdE_nil1 _)).mono ?_
      rintro r y1 ⟨bl, rfl, hbl, hlg, hbb⟩
      have hv1' := hv0.trans (hbb.mono hv0.size)
      have hlr := Lib.hid hlg.rd
      refine hK w2 _ _ (Below.refl _ _) hv1' ?_
      clear hK K hbb hlg hbl
      refine pl_l rfl (by kernel_rfl) ?_
      intro K hK
      go_simp
      refine (logLen_any bl _ _ hlr.out).mono ?_
      rintro r y2 ⟨rfl, rfl⟩
      rw [show ((logE []).length : Int) = 0 from rfl]
      refine hK w2 _ _ (Below.refl _ _) hv1' ?_
      clear hK K
      iterate 11 (refine pl_q rfl ?_; go_big_quiet_step (fail); refine wpQuiet_nil ?_)
      refine pl_fin ?_
      go_wp2_with fail
      go_ret
      exact ⟨ret_bool (by simp <;> omega), hB2.trans (hv1'.mono hB2.size)⟩

end Go.Proofs.Ytacchkmdheglaaa
