/- Contract: the reference gathers a vote, or not. -/
import Derived.Test.YtacchkmdheglaaaVtT
import Derived.Test.YtacchkmdheglaaaVtD
namespace Go.Proofs.Ytacchkmdheglaaa
open Go.RowKit
set_option linter.unusedVariables false

theorem infoRvote : (Try.prog.info? 51).map (fun i => (i.zero, i.size, i.bytes)) = some (some (.agg #[.int .i64 0, .int .i64 0, .slice none 0 0, .int .i64 0]), 4, 48) := by kernel_rfl

theorem pl_k {P : Program} {Q : Exit → Act → World → Prop} {l : List Oper} {k : Nat} {p : Pl} {a : Act} {b w : World} {o : Oper} (hk : l[k]? = some o) (hw : Region.wanted o (yielded l.toArray a.tmps) = false)
    (h : wpPl P l.toArray Q p b (a.put o.dst undef) w) : wpPl P l.toArray Q (.q k p) b a w := by
  unfold wpPl qOp
  simp only [List.getElem?_toArray, hk, hw]
  exact h

set_option maxRecDepth 100000 in
set_option maxHeartbeats 8000000 in
theorem r19Add_any (b : Nat) (view n : Int) (l : List VtS) (x : Vt) (s : Value) (F D : Nat → Prop) (w : World) (hr : vtO 45 51 w F D b view n l) (hlt : ∀ k, F k ∨ D k → k < w.heap.size) (hg : goodV l) (hs : rdE w s x.lg)
    (hsk : ∀ k, s.ownBlock = some k → ¬ F k ∧ k < w.heap.size) (hl : l.length ≤ 100) :
    Calls Try.prog 23 #[.pointer (some ⟨b, 0, none⟩), x.val s] w fun r w' => r = .returned (.bool (okV view n l x)) ∧ VAdded 45 51 w w' F D (fun k => s.ownBlock = some k) b view n l x (okV view n l x) := by
  obtain ⟨i0, hi, hz0, hz1, hz2⟩ := info_parts infoRvote
  replace hi := Lib.hid hi
  obtain ⟨xf, xl, xg, xc⟩ := x
  dsimp only at hs
  obtain ⟨sa, sc, rfl⟩ := hs.len
  simp only [Vt.val]
  obtain ⟨W1, hW1⟩ : ∃ W, W = w.alloc (boxV xf xl (.slice sa xg.length sc) xc 51) := ⟨_, rfl⟩
  have hB1 : Below w.heap.size w W1 := hW1 ▸ (Below.refl _ _).alloc (Nat.le_refl _) _
  have hbx : W1.heap[w.heap.size]? = some (boxV xf xl (.slice sa xg.length sc) xc 51) := hW1 ▸ at_new _ _
  have hr1 := hr.grow hB1
  have hrd := hr1.rd
  have hs1 := hs.grow hB1
  obtain ⟨ok, hok⟩ : ∃ ok, okV view n l ⟨xf, xl, xg, xc⟩ = ok := ⟨_, rfl⟩
  have hblt := hr1.rd.lt
  replace hr := Lib.hid hr
  replace hr1 := Lib.hid hr1
  replace hrd := Lib.hid hrd
  replace hlt := Lib.hid hlt
  replace hs := Lib.hid hs
  replace hs1 := Lib.hid hs1
  replace hB1 := Lib.hid hB1
  replace hbx := Lib.hid hbx
  replace hg := Lib.hid hg
  replace hsk := Lib.hid hsk
  have hTl := teamV_lt l
  obtain ⟨nb, hnb⟩ : ∃ nb, nb = w.heap.size := ⟨_, rfl⟩
  rw [← hnb] at hbx
  rw [hok]
  replace hok := Lib.hid hok
  go_enter Try.func23, Try.ntmps23
  go_upto_region 1 with (fail)
  rw [← hW1, ← hnb]
  clear hW1
  replace hnb := Lib.hid hnb
  go_cut [60] (fun s wx => s = .bool (!ok) ∧ Below W1.heap.size W1 wx)
  case first =>
    have u0 := upTo_cell (cell_at hbx.out 0)
    have u1 := upTo_cell (cell_at hbx.out 1)
    have u2 := upTo_cell (cell_at hbx.out 2)
    have u3 := upTo_cell (cell_at hbx.out 3)
    have v0 := upTo_cell hrd.out.1
    have v1 := upTo_cell hrd.out.2.1
    obtain ⟨q, hq⟩ : ∃ q, hasT (teamV l) xf = q := ⟨_, rfl⟩
    have hokE : ok = (decide (1 ≤ xf) && decide (xf ≤ n) && !q && decide (0 ≤ xl) && decide (xl < view) && decide ((logE xg).length = xg.length) && decide (0 ≤ xc) && decide (xc ≤ (xg.length : Int))) := by rw [← hok.out, ← hq]; rfl
    have HT : Hid (∀ y, Calls Try.prog 27 #[.pointer (some ⟨b, 0, none⟩)] (upTo W1 y) fun r w' => r = .returned (.int .i64 (teamV l)) ∧ ∃ z, w' = upTo W1 z) := Lib.hid fun y => call_up_eq (r19Team_any b view n l _ (hrd.out.grow (upTo_below W1 y)) hg.out)
    have HH : Hid (∀ y, Calls Try.prog 42 #[.int .i64 (teamV l), .int .i64 xf] (upTo W1 y) fun r w' => r = .returned (.bool q) ∧ ∃ z, w' = upTo W1 z) := Lib.hid fun y => by
      have := rhas_any (teamV l : Int) xf (upTo W1 y) ⟨by omega, by omega⟩
      rw [Int.toNat_natCast, hq] at this
      exact call_up this
    replace hokE := Lib.hid hokE
    replace hq := Lib.hid hq
    by_cases c1 : xf < 1
    · have d1 : decide (xf < 1) = true := by simpa using c1
      refine wp_region_up (by kernel_rfl) (by kernel_rfl) ?_
      repeat (go_big_quiet_step ((first | (go_at_call 27; exact HT.out _) | (go_at_call 42; exact HH.out _))))
      refine wpQuiet_nil ?_
      intro w2 hw2
      have hb2 := up_below hw2
      clear hw2
      go_wp2_with fail
      go_meet
      exact ⟨by rw [hokE.out]; simp <;> omega, hb2⟩
    have d1 : decide (xf < 1) = false := by simpa using c1
    by_cases c2 : n < xf
    · have d2 : decide (n < xf) = true := by simpa using c2
      refine wp_region_up (by kernel_rfl) (by kernel_rfl) ?_
      repeat (go_big_quiet_step ((first | (go_at_call 27; exact HT.out _) | (go_at_call 42; exact HH.out _))))
      refine wpQuiet_nil ?_
      intro w2 hw2
      have hb2 := up_below hw2
      clear hw2
      go_wp2_with fail
      go_meet
      exact ⟨by rw [hokE.out]; simp <;> omega, hb2⟩
    have d2 : decide (n < xf) = false := by simpa using c2
    cases q
    case true =>
      refine wp_region_up (by kernel_rfl) (by kernel_rfl) ?_
      repeat (go_big_quiet_step ((first | (go_at_call 27; exact HT.out _) | (go_at_call 42; exact HH.out _))))
      refine wpQuiet_nil ?_
      intro w2 hw2
      have hb2 := up_below hw2
      clear hw2
      go_wp2_with fail
      go_meet
      exact ⟨by rw [hokE.out]; simp <;> omega, hb2⟩
    by_cases c4 : xl < 0
    · have d4 : decide (xl < 0) = true := by simpa using c4
      refine wp_region_up (by kernel_rfl) (by kernel_rfl) ?_
      repeat (go_big_quiet_step ((first | (go_at_call 27; exact HT.out _) | (go_at_call 42; exact HH.out _))))
      refine wpQuiet_nil ?_
      intro w2 hw2
      have hb2 := up_below hw2
      clear hw2
      go_wp2_with fail
      go_meet
      exact ⟨by rw [hokE.out]; simp <;> omega, hb2⟩
    have d4 : decide (xl < 0) = false := by simpa using c4
    by_cases c5 : view ≤ xl
    · have d5 : decide (view ≤ xl) = true := by simpa using c5
      refine wp_region_up (by kernel_rfl) (by kernel_rfl) ?_
      repeat (go_big_quiet_step ((first | (go_at_call 27; exact HT.out _) | (go_at_call 42; exact HH.out _))))
      refine wpQuiet_nil ?_
      intro w2 hw2
      have hb2 := up_below hw2
      clear hw2
      go_wp2_with fail
      go_meet
      exact ⟨by rw [hokE.out]; simp <;> omega, hb2⟩
    have d5 : decide (view ≤ xl) = false := by simpa using c5
    refine wp_region_pl W1 (.q 0 (.q 1 (.q 2 (.q 3 (.q 4 (.q 5 (.q 6 (.q 7 (.q 8 (.q 9 (.q 10 (.q 11 (.q 12 (.q 13 (.q 15 (.q 16 (.l 14 (.l 17 (.q 18 (.q 19 (.q 20 (.q 21 (.q 22 (.q 23 (.q 24 (.q 25 (.q 26 (.q 27 (.q 28 (.q 29 (.q 30 (.q 31 (.q 32 (.q 33 (.q 34 (.q 35 (.q 38 (.q 39 (.q 40 (.l 36 (.q 37 (.q 41 (.q 42 (.q 43 (.q 44 (.q 45 (.q 46 (.q 47 (.q 48 (.q 49 (.q 50 (.q 51 (.q 52 (.q 53 (.q 54 (.q 55 .fin)))))))))))))))))))))))))))))))))))))))))))))))))))))))) (by kernel_rfl) (by kernel_rfl) (Below.refl _ _) ?_
    intro y0 hheap hv0 hbw
    clear hheap hbw
    by_cases c6 : (logE xg).length = xg.length
    case neg =>
      have e1 : ((logE xg).length == xg.length) = false := by simpa using c6
      have e2 : ((logE xg).length != xg.length) = true := by simpa using c6
      have e3 : (((logE xg).length : Int) == (xg.length : Int)) = false := by simp; omega
      have e4 : (((logE xg).length : Int) != (xg.length : Int)) = true := by simp; omega
      iterate 16 (refine pl_q rfl ?_; go_big_quiet_step (fail); refine wpQuiet_nil ?_)
      refine pl_l rfl (by kernel_rfl) ?_
      intro K hK
      go_simp
      refine (r19Team_any b view n l _ (hrd.out.grow hv0) hg.out).mono ?_
      rintro r y1 ⟨rfl, rfl⟩
      refine hK W1 _ _ (Below.refl _ _) hv0 ?_
      clear hK K
      refine pl_l rfl (by kernel_rfl) ?_
      intro K hK
      go_simp
      refine (rhas_any (teamV l : Int) xf _ ⟨by omega, by omega⟩).mono ?_
      rintro r y1 ⟨rfl, hbb⟩
      rw [Int.toNat_natCast, hq.out]
      have hv1 := hv0.trans (hbb.mono hv0.size)
      refine hK W1 _ _ (Below.refl _ _) hv1 ?_
      clear hK K hbb
      iterate 21 (refine pl_q rfl ?_; go_big_quiet_step (fail); refine wpQuiet_nil ?_)
      refine pl_l rfl (by kernel_rfl) ?_
      intro K hK
      go_simp
      refine (r12Log_any _ xg _ (hs1.out.grow hv1)).mono ?_
      rintro r y2 ⟨ul, rfl, hol, hbb⟩
      obtain ⟨la, lc, rfl⟩ := hol.rd.len
      have hv2 := hv1.trans (hbb.mono hv1.size)
      refine hK W1 _ _ (Below.refl _ _) hv2 ?_
      clear hK K hbb hol
      iterate 4 (refine pl_q rfl ?_; go_big_quiet_step (fail); refine wpQuiet_nil ?_)
      refine pl_k rfl (by kernel_rfl) ?_
      go_simp
      refine pl_k rfl (by kernel_rfl) ?_
      go_simp
      refine pl_k rfl (by kernel_rfl) ?_
      go_simp
      iterate 2 (refine pl_q rfl ?_; go_big_quiet_step (fail); refine wpQuiet_nil ?_)
      refine pl_k rfl (by kernel_rfl) ?_
      go_simp
      refine pl_k rfl (by kernel_rfl) ?_
      go_simp
      refine pl_k rfl (by kernel_rfl) ?_
      go_simp
      refine pl_k rfl (by kernel_rfl) ?_
      go_simp
      refine pl_k rfl (by kernel_rfl) ?_
      go_simp
      refine pl_k rfl (by kernel_rfl) ?_
      go_simp
      iterate 1 (refine pl_q rfl ?_; go_big_quiet_step (fail); refine wpQuiet_nil ?_)
      refine pl_fin ?_
      go_wp2_with fail
      go_meet
      exact ⟨by rw [hokE.out]; simp <;> omega, hv2⟩
    have e1 : ((logE xg).length == xg.length) = true := by simpa using c6
    have e2 : ((logE xg).length != xg.length) = false := by simpa using c6
    have e3 : (((logE xg).length : Int) == (xg.length : Int)) = true := by simp; omega
    have e4 : (((logE xg).length : Int) != (xg.length : Int)) = false := by simp; omega
    have hc6 := Lib.hid c6
    clear c6
    by_cases c7 : xc < 0
    · have d7 : decide (xc < 0) = true := by simpa using c7
      iterate 16 (refine pl_q rfl ?_; go_big_quiet_step (fail); refine wpQuiet_nil ?_)
      refine pl_l rfl (by kernel_rfl) ?_
      intro K hK
      go_simp
      refine (r19Team_any b view n l _ (hrd.out.grow hv0) hg.out).mono ?_
      rintro r y1 ⟨rfl, rfl⟩
      refine hK W1 _ _ (Below.refl _ _) hv0 ?_
      clear hK K
      refine pl_l rfl (by kernel_rfl) ?_
      intro K hK
      go_simp
      refine (rhas_any (teamV l : Int) xf _ ⟨by omega, by omega⟩).mono ?_
      rintro r y1 ⟨rfl, hbb⟩
      rw [Int.toNat_natCast, hq.out]
      have hv1 := hv0.trans (hbb.mono hv0.size)
      refine hK W1 _ _ (Below.refl _ _) hv1 ?_
      clear hK K hbb
      iterate 21 (refine pl_q rfl ?_; go_big_quiet_step (fail); refine wpQuiet_nil ?_)
      refine pl_l rfl (by kernel_rfl) ?_
      intro K hK
      go_simp
      refine (r12Log_any _ xg _ (hs1.out.grow hv1)).mono ?_
      rintro r y2 ⟨ul, rfl, hol, hbb⟩
      obtain ⟨la, lc, rfl⟩ := hol.rd.len
      have hv2 := hv1.trans (hbb.mono hv1.size)
      refine hK W1 _ _ (Below.refl _ _) hv2 ?_
      clear hK K hbb hol
      iterate 9 (refine pl_q rfl ?_; go_big_quiet_step (fail); refine wpQuiet_nil ?_)
      refine pl_k rfl (by kernel_rfl) ?_
      go_simp
      refine pl_k rfl (by kernel_rfl) ?_
      go_simp
      refine pl_k rfl (by kernel_rfl) ?_
      go_simp
      refine pl_k rfl (by kernel_rfl) ?_
      go_simp
      refine pl_k rfl (by kernel_rfl) ?_
      go_simp
      refine pl_k rfl (by kernel_rfl) ?_
      go_simp
      iterate 1 (refine pl_q rfl ?_; go_big_quiet_step (fail); refine wpQuiet_nil ?_)
      refine pl_fin ?_
      go_wp2_with fail
      go_meet
      exact ⟨by rw [hokE.out]; simp [hc6.out] <;> omega, hv2⟩
    have d7 : decide (xc < 0) = false := by simpa using c7
    by_cases c8 : (xg.length : Int) < xc
    · have d8 : decide ((xg.length : Int) < xc) = true := by simpa using c8
      iterate 16 (refine pl_q rfl ?_; go_big_quiet_step (fail); refine wpQuiet_nil ?_)
      refine pl_l rfl (by kernel_rfl) ?_
      intro K hK
      go_simp
      refine (r19Team_any b view n l _ (hrd.out.grow hv0) hg.out).mono ?_
      rintro r y1 ⟨rfl, rfl⟩
      refine hK W1 _ _ (Below.refl _ _) hv0 ?_
      clear hK K
      refine pl_l rfl (by kernel_rfl) ?_
      intro K hK
      go_simp
      refine (rhas_any (teamV l : Int) xf _ ⟨by omega, by omega⟩).mono ?_
      rintro r y1 ⟨rfl, hbb⟩
      rw [Int.toNat_natCast, hq.out]
      have hv1 := hv0.trans (hbb.mono hv0.size)
      refine hK W1 _ _ (Below.refl _ _) hv1 ?_
      clear hK K hbb
      iterate 21 (refine pl_q rfl ?_; go_big_quiet_step (fail); refine wpQuiet_nil ?_)
      refine pl_l rfl (by kernel_rfl) ?_
      intro K hK
      go_simp
      refine (r12Log_any _ xg _ (hs1.out.grow hv1)).mono ?_
      rintro r y2 ⟨ul, rfl, hol, hbb⟩
      obtain ⟨la, lc, rfl⟩ := hol.rd.len
      have hv2 := hv1.trans (hbb.mono hv1.size)
      refine hK W1 _ _ (Below.refl _ _) hv2 ?_
      clear hK K hbb hol
      iterate 16 (refine pl_q rfl ?_; go_big_quiet_step (fail); refine wpQuiet_nil ?_)
      refine pl_fin ?_
      go_wp2_with fail
      go_meet
      exact ⟨by rw [hokE.out]; simp [hc6.out] <;> omega, hv2⟩
    have d8 : decide ((xg.length : Int) < xc) = false := by simpa using c8
    iterate 16 (refine pl_q rfl ?_; go_big_quiet_step (fail); refine wpQuiet_nil ?_)
    refine pl_l rfl (by kernel_rfl) ?_
    intro K hK
    go_simp
    refine (r19Team_any b view n l _ (hrd.out.grow hv0) hg.out).mono ?_
    rintro r y1 ⟨rfl, rfl⟩
    refine hK W1 _ _ (Below.refl _ _) hv0 ?_
    clear hK K
    refine pl_l rfl (by kernel_rfl) ?_
    intro K hK
    go_simp
    refine (rhas_any (teamV l : Int) xf _ ⟨by omega, by omega⟩).mono ?_
    rintro r y1 ⟨rfl, hbb⟩
    rw [Int.toNat_natCast, hq.out]
    have hv1 := hv0.trans (hbb.mono hv0.size)
    refine hK W1 _ _ (Below.refl _ _) hv1 ?_
    clear hK K hbb
    iterate 21 (refine pl_q rfl ?_; go_big_quiet_step (fail); refine wpQuiet_nil ?_)
    refine pl_l rfl (by kernel_rfl) ?_
    intro K hK
    go_simp
    refine (r12Log_any _ xg _ (hs1.out.grow hv1)).mono ?_
    rintro r y2 ⟨ul, rfl, hol, hbb⟩
    obtain ⟨la, lc, rfl⟩ := hol.rd.len
    have hv2 := hv1.trans (hbb.mono hv1.size)
    refine hK W1 _ _ (Below.refl _ _) hv2 ?_
    clear hK K hbb hol
    iterate 16 (refine pl_q rfl ?_; go_big_quiet_step (fail); refine wpQuiet_nil ?_)
    refine pl_fin ?_
    go_wp2_with fail
    go_meet
    exact ⟨by rw [hokE.out]; simp [hc6.out] <;> omega, hv2⟩
  case rest =>
    obtain ⟨rfl, hb1⟩ := hcut
    have hBc := hB1.out.trans (hb1.mono hB1.out.size)
    cases ok
    · go_wp2
      go_ret
      exact ⟨rfl, by rw [VAdded, if_neg Bool.false_ne_true]; exact hBc⟩
    have hbx6 := at_below hbx.out hb1
    have hr6 := hr1.out.grow hb1
    have hs6 := hs1.out.grow hb1
    have hblt6 : b < wc.heap.size := Nat.lt_of_lt_of_le hblt hb1.size
    have hbnb : ¬ b = nb := by have := hlt.out b (.inl hr6.1); have := hnb.out; omega
    replace hBc := Lib.hid hBc
    replace hbx6 := Lib.hid hbx6
    replace hr6 := Lib.hid hr6
    replace hs6 := Lib.hid hs6
    have hwc := hBc.out.size
    clear hb1 hr1 hs1 hB1 hbx hrd
    go_upto_region 3 with (fail)
    obtain ⟨hFb, hFD, v, hvb, hvo, hvF, hlog⟩ := hr6.out
    have hsl : ∃ ao cap, v = .slice ao l.length cap := by
      rcases hvo.2 with ⟨h1, h2⟩ | ⟨g, cap, cur, h1, _⟩
      · exact ⟨none, 0, by rw [h1, h2]⟩
      · exact ⟨_, cap, h1⟩
    obtain ⟨ao, cap, rfl⟩ := hsl
    have hvn : (Value.slice ao l.length cap).ownBlock ≠ some b := by
      intro h
      rcases hvo.2 with ⟨h3, _⟩ | ⟨g, c, cur, h3, _, h4, _⟩
      · rw [h3] at h; cases h
      · rw [h3] at h; injection h with h; subst h
        rw [h4] at hvb; injection hvb with hvb; injection hvb with _ h5; cases h5
    have hcl : wc.cell? ⟨b, 2, none⟩ = some (.slice ao l.length cap) := by simp [World.cell?, hvb]
    have hfz6 : wc.frozen? ⟨b, 2, none⟩ = false := free_at hvb 2
    have e0 := cell_at hbx6.out 0
    have e1 := cell_at hbx6.out 1
    have e2 := cell_at hbx6.out 2
    have e3 := cell_at hbx6.out 3
    simp only [List.getElem?_toArray, List.getElem?_cons_zero, List.getElem?_cons_succ] at e0 e1 e2 e3
    have hbn6 : ¬ b = wc.heap.size := by omega
    have hnb6 := at_lt hbx6.out
    have hone : ∀ u, u ∈ VtS.cells ⟨⟨xf, xl, xg, xc⟩, .slice sa xg.length sc⟩ → u.oneCell' = true := by
      intro u hu; simp [VtS.cells] at hu; rcases hu with rfl | rfl | rfl | rfl <;> rfl
    replace hvb := Lib.hid hvb
    replace hvo := Lib.hid hvo
    replace hFD := Lib.hid hFD
    replace hvF := Lib.hid hvF
    replace hlog := Lib.hid hlog
    replace hone := Lib.hid hone
    go_region_law
      ((refine step_append_lies _ (by rfl) _ _ _ (by rfl) 0 51 i0 _ 4 48 Try.underlying43 hi.out hz0 hz1 hz2 rfl (by omega) (.slice ao l.length cap) l.length (flatV l) (by rfl) ((World.ownsRow.alloc hvo.out _).drew)
          ⟨wc.heap.size, 0, none⟩ 1 1 (VtS.cells ⟨⟨xf, xl, xg, xc⟩, .slice sa xg.length sc⟩) (by rfl) (by rfl) (World.news_of_block (cs := #[.int .i64 xf, .int .i64 xl, .slice sa xg.length sc, .int .i64 xc]) (t := 51) (fr := (0, 0)) (heap_alloc_new wc _)) hone.out
          (by omega) (by unfold maxLen; omega) (by omega) (by simp) (wc.heap.size + 1) (by simp) ?_; intro gg cap1 w7 hown1 hgrow hat hlt7; have hfz7 : w7.frozen? ⟨b, 2, none⟩ = false := (hgrow.frozen_far ⟨b, 2, none⟩ (by simp <;> omega) (Ne.symm hvn)).trans ((World.frozen?_alloc_old wc _ ⟨b, 2, none⟩ hbn6).trans hfz6); have hcl7 : w7.cell? ⟨b, 2, none⟩ = some (.slice ao l.length cap) := (hgrow.cell_far ⟨b, 2, none⟩ (by simp <;> omega) (Ne.symm hvn)).trans ((World.cell?_alloc_old wc _ ⟨b, 2, none⟩ hbn6).trans hcl)))
    all_goals
      have hfin := vt_close (x := ⟨xf, xl, xg, xc⟩) (n' := l.length + 1) (l := l) hlt.out hBc.out hFb hFD.out hvb.out hvF.out hvn hlog.out hs6.out (fun k hk => ⟨(hsk.out k hk).1, Nat.lt_of_lt_of_le (hsk.out k hk).2 hwc⟩) (by simp) (by rw [flatV_snoc]; exact hown1) hgrow hat hlt7
      replace hfin := Lib.hid hfin
      clear hown1 hgrow hat hfz7 hcl7
      go_wp2
      go_ret
      refine ⟨rfl, ?_⟩
      rw [VAdded, if_pos rfl]
      obtain ⟨g1, g2, g3⟩ := hfin.out
      exact ⟨_, _, _, g1, g2, fun k hk => hk.elim .inl fun hk => .inr (.inr hk), g3⟩
end Go.Proofs.Ytacchkmdheglaaa
