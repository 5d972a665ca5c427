/- Contract: a vote is gathered, or not. -/
import Derived.Test.YtacchkmdheglaaaVtC
namespace Go.Proofs.Ytacchkmdheglaaa
open Go.RowKit
set_option linter.unusedVariables false

/-- behind an Add: if it was taken, one more stands; else nothing has turned -/
def VAdded (T TV : TypeId) (w w' : World) (F D E : Nat → Prop) (b : Nat) (view n : Int) (l : List VtS) (x : Vt) (ok : Bool) : Prop :=
  if ok = true then ∃ s' F' D', vtO T TV w' F' D' b view n (l ++ [⟨x, s'⟩]) ∧ (∀ k, F' k → F k ∨ (w.heap.size ≤ k ∧ k < w'.heap.size)) ∧ (∀ k, D' k → D k ∨ (w.heap.size ≤ k ∧ k < w'.heap.size) ∨ E k) ∧ Chg F w w'
  else Below w.heap.size w w'

theorem okV_one {view n : Int} {l : List VtS} {x : Vt} (h : (decide (1 ≤ x.frm) && decide (x.frm ≤ n) && !hasT (teamV l) x.frm && decide (0 ≤ x.last) && decide (x.last < view)) = false) : okV view n l x = false := by
  unfold okV; rw [h]; simp
theorem okV_two {view n : Int} {l : List VtS} {x : Vt} (h : (decide (1 ≤ x.frm) && decide (x.frm ≤ n) && !hasT (teamV l) x.frm && decide (0 ≤ x.last) && decide (x.last < view)) = true) :
    okV view n l x = (decide ((logE x.lg).length = x.lg.length) && decide (0 ≤ x.com) && decide (x.com ≤ (x.lg.length : Int))) := by
  unfold okV; rw [h]; simp [Bool.and_assoc]

set_option maxRecDepth 100000 in
set_option maxHeartbeats 4000000 in
theorem vAdd_any (b : Nat) (view n : Int) (l : List VtS) (x : Vt) (s : Value) (F D : Nat → Prop) (w : World) (hr : vtO 78 47 w F D b view n l) (hlt : ∀ k, F k ∨ D k → k < w.heap.size) (hs : rdE w s x.lg) (hl : l.length ≤ 100) :
    Calls Try.prog 22 #[.pointer (some ⟨b, 0, none⟩), x.val s] w fun r w' => r = .returned (.bool (okV view n l x)) ∧ VAdded 78 47 w w' F D (fun _ => False) b view n l x (okV view n l x) := by
  obtain ⟨i0, hi, hz0, hz1, hz2⟩ := info_parts infoVote
  replace hi := Lib.hid hi
  obtain ⟨xf, xl, xg, xc⟩ := x
  dsimp only at hs
  obtain ⟨sa, sc, rfl⟩ := hs.len
  simp only [Vt.val]
  obtain ⟨W1, hW1⟩ : ∃ W, W = w.alloc (boxV xf xl (.slice sa xg.length sc) xc 47) := ⟨_, rfl⟩
  have hB1 : Below w.heap.size w W1 := hW1 ▸ (Below.refl _ _).alloc (Nat.le_refl _) _
  have hbx : W1.heap[w.heap.size]? = some (boxV xf xl (.slice sa xg.length sc) xc 47) := hW1 ▸ at_new _ _
  have hr1 := hr.grow hB1
  have hrd := hr1.rd
  have hs1 := hs.grow hB1
  obtain ⟨ok, hok⟩ : ∃ ok, okV view n l ⟨xf, xl, xg, xc⟩ = ok := ⟨_, rfl⟩
  have hblt := hr1.rd.lt
  replace hr := Lib.hid hr
  replace hr1 := Lib.hid hr1
  replace hrd := Lib.hid hrd
  replace hlt := Lib.hid hlt
  replace hs := Lib.hid hs
  replace hs1 := Lib.hid hs1
  replace hB1 := Lib.hid hB1
  replace hbx := Lib.hid hbx
  obtain ⟨nb, hnb⟩ : ∃ nb, nb = w.heap.size := ⟨_, rfl⟩
  rw [← hnb] at hbx
  rw [hok]
  replace hok := Lib.hid hok
  go_enter Try.func22, Try.ntmps22
  go_upto_region 1 with (fail)
  rw [← hW1, ← hnb]
  clear hW1
  replace hnb := Lib.hid hnb
  obtain ⟨p1, hp1⟩ : ∃ p1, (decide (1 ≤ xf) && decide (xf ≤ n) && !hasT (teamV l) xf && decide (0 ≤ xl) && decide (xl < view)) = p1 := ⟨_, rfl⟩
  replace hp1 := Lib.hid hp1
  go_cut [41] (fun s wx => s = .bool (!p1) ∧ Below W1.heap.size W1 wx)
  case first =>
    have u0 := upTo_cell (cell_at hbx.out 0)
    have u1 := upTo_cell (cell_at hbx.out 1)
    have v0 := upTo_cell hrd.out.1
    have v1 := upTo_cell hrd.out.2.1
    obtain ⟨q, hq⟩ : ∃ q, hasT (teamV l) xf = q := ⟨_, rfl⟩
    have HT : Hid (∀ y, Calls Try.prog 26 #[.pointer (some ⟨b, 0, none⟩)] (upTo W1 y) fun r w' => r = .returned (.int .i64 (teamV l)) ∧ ∃ z, w' = upTo W1 z) := Lib.hid fun y => call_up (vTeam_any b view n l _ (hrd.out.grow (upTo_below W1 y)))
    have HH : Hid (∀ y, Calls Try.prog 35 #[.int .i64 (teamV l), .int .i64 xf] (upTo W1 y) fun r w' => r = .returned (.bool q) ∧ ∃ z, w' = upTo W1 z) := Lib.hid fun y => by
      rw [← hq]; exact call_up_eq (has_nat _ _ _ (teamV_lt l))
    rw [hq] at hp1
    replace hq := Lib.hid hq
    by_cases c1 : xf < 1
    · have d1 : decide (xf < 1) = true := by simpa using c1
      refine wp_region_up (by kernel_rfl) (by kernel_rfl) ?_
      repeat (go_big_quiet_step ((first | (go_at_call 26; exact HT.out _) | (go_at_call 35; exact HH.out _))))
      refine wpQuiet_nil ?_
      intro w2 hw2
      have hb2 := up_below hw2
      clear hw2
      go_wp2_with fail
      go_meet
      exact ⟨by rw [← hp1.out]; simp <;> omega, hb2⟩
    have d1 : decide (xf < 1) = false := by simpa using c1
    by_cases c2 : n < xf
    · have d2 : decide (n < xf) = true := by simpa using c2
      refine wp_region_up (by kernel_rfl) (by kernel_rfl) ?_
      repeat (go_big_quiet_step ((first | (go_at_call 26; exact HT.out _) | (go_at_call 35; exact HH.out _))))
      refine wpQuiet_nil ?_
      intro w2 hw2
      have hb2 := up_below hw2
      clear hw2
      go_wp2_with fail
      go_meet
      exact ⟨by rw [← hp1.out]; simp <;> omega, hb2⟩
    have d2 : decide (n < xf) = false := by simpa using c2
    cases q
    case true =>
      refine wp_region_up (by kernel_rfl) (by kernel_rfl) ?_
      repeat (go_big_quiet_step ((first | (go_at_call 26; exact HT.out _) | (go_at_call 35; exact HH.out _))))
      refine wpQuiet_nil ?_
      intro w2 hw2
      have hb2 := up_below hw2
      clear hw2
      go_wp2_with fail
      go_meet
      exact ⟨by rw [← hp1.out]; simp <;> omega, hb2⟩
    by_cases c4 : xl < 0
    · have d4 : decide (xl < 0) = true := by simpa using c4
      refine wp_region_up (by kernel_rfl) (by kernel_rfl) ?_
      repeat (go_big_quiet_step ((first | (go_at_call 26; exact HT.out _) | (go_at_call 35; exact HH.out _))))
      refine wpQuiet_nil ?_
      intro w2 hw2
      have hb2 := up_below hw2
      clear hw2
      go_wp2_with fail
      go_meet
      exact ⟨by rw [← hp1.out]; simp <;> omega, hb2⟩
    have d4 : decide (xl < 0) = false := by simpa using c4
    by_cases c5 : view ≤ xl
    · have d5 : decide (view ≤ xl) = true := by simpa using c5
      refine wp_region_up (by kernel_rfl) (by kernel_rfl) ?_
      repeat (go_big_quiet_step ((first | (go_at_call 26; exact HT.out _) | (go_at_call 35; exact HH.out _))))
      refine wpQuiet_nil ?_
      intro w2 hw2
      have hb2 := up_below hw2
      clear hw2
      go_wp2_with fail
      go_meet
      exact ⟨by rw [← hp1.out]; simp <;> omega, hb2⟩
    have d5 : decide (view ≤ xl) = false := by simpa using c5
    refine wp_region_up (by kernel_rfl) (by kernel_rfl) ?_
    repeat (go_big_quiet_step ((first | (go_at_call 26; exact HT.out _) | (go_at_call 35; exact HH.out _))))
    refine wpQuiet_nil ?_
    intro w2 hw2
    have hb2 := up_below hw2
    clear hw2
    go_wp2_with fail
    go_meet
    exact ⟨by rw [← hp1.out]; simp <;> omega, hb2⟩
  case rest =>
    obtain ⟨rfl, hb1⟩ := hcut
    have hBc := hB1.out.trans (hb1.mono hB1.out.size)
    cases p1
    · have hok2 := hok.out
      rw [okV_one hp1.out] at hok2
      subst hok2
      go_wp2
      go_ret
      exact ⟨rfl, by rw [VAdded, if_neg Bool.false_ne_true]; exact hBc⟩
    have hbx2 := at_below hbx.out hb1
    have hrc := hr1.out.grow hb1
    have hsc := hs1.out.grow hb1
    have hblt2 : b < wc.heap.size := Nat.lt_of_lt_of_le hblt hb1.size
    replace hBc := Lib.hid hBc
    replace hbx2 := Lib.hid hbx2
    replace hrc := Lib.hid hrc
    replace hsc := Lib.hid hsc
    have hok2 := okV_two (x := ⟨xf, xl, xg, xc⟩) hp1.out
    rw [hok.out] at hok2
    dsimp only at hok2
    replace hok2 := Lib.hid hok2
    clear hb1 hr1 hs1 hB1 hbx hrd
    go_upto_region 3 with (fail)
    go_cut [62] (fun s wx => s = .bool (!ok) ∧ Below wc.heap.size wc wx)
    case first =>
      have u2 := upTo_cell (cell_at hbx2.out 2)
      have u3 := upTo_cell (cell_at hbx2.out 3)
      have hlE : Hid ((logE xg).length = xg.length → decide ((logE xg).length == xg.length) = true) := Lib.hid fun h => by simp [h]
      by_cases c1 : (logE xg).length = xg.length
      case neg =>
        have d1 : ((logE xg).length == xg.length) = false := by simpa using c1
        have d1x : ((logE xg).length != xg.length) = true := by simpa using c1
        have d1i : (((logE xg).length : Int) == (xg.length : Int)) = false := by simp; omega
        have d1j : (((logE xg).length : Int) != (xg.length : Int)) = true := by simp; omega
        refine wp_region_pl wc (.q 0 (.q 1 (.q 4 (.q 5 (.q 6 (.l 2 (.l 3 (.q 7 (.q 8 (.q 9 (.q 10 (.q 11 (.q 12 (.q 13 (.q 14 (.q 15 (.q 16 (.q 17 (.q 18 (.q 19 (.q 20 .fin))))))))))))))))))))) (by kernel_rfl) (by kernel_rfl) (Below.refl _ _) ?_
        intro v0 hheap hv0 hbw
        clear hheap hbw
        repeat (refine pl_q rfl ?_; go_big_quiet_step (fail); refine wpQuiet_nil ?_)
        refine pl_l rfl rfl ?_
        intro K hK
        go_simp
        refine (logNew_any _ xg _ (hsc.out.grow hv0)).mono ?_
        rintro r v1 ⟨bl, rfl, hbl, hlg, hbb⟩
        have hv1 := hv0.trans (hbb.mono hv0.size)
        have hlr := Lib.hid hlg.rd
        refine hK wc _ _ (Below.refl _ _) hv1 ?_
        clear hK K hbb hlg hbl
        refine pl_l rfl rfl ?_
        intro K hK
        go_simp
        refine (logLen_any bl _ _ hlr.out).mono ?_
        rintro r v2 ⟨rfl, rfl⟩
        refine hK wc _ _ (Below.refl _ _) hv1 ?_
        clear hK K
        repeat (refine pl_q rfl ?_; go_big_quiet_step (fail); refine wpQuiet_nil ?_)
        refine pl_fin ?_
        go_wp2_with fail
        go_meet
        exact ⟨by rw [hok2.out]; simp <;> omega, hv1⟩
      have d1 : ((logE xg).length == xg.length) = true := by simpa using c1
      have d1x : ((logE xg).length != xg.length) = false := by simpa using c1
      have d1i : (((logE xg).length : Int) == (xg.length : Int)) = true := by simp; omega
      have d1j : (((logE xg).length : Int) != (xg.length : Int)) = false := by simp; omega
      have hc1 := Lib.hid c1
      clear c1
      by_cases c2 : xc < 0
      · have d2 : decide (xc < 0) = true := by simpa using c2
        refine wp_region_pl wc (.q 0 (.q 1 (.q 4 (.q 5 (.q 6 (.l 2 (.l 3 (.q 7 (.q 8 (.q 9 (.q 10 (.q 11 (.q 12 (.q 13 (.q 14 (.q 15 (.q 16 (.q 17 (.q 18 (.q 19 (.q 20 .fin))))))))))))))))))))) (by kernel_rfl) (by kernel_rfl) (Below.refl _ _) ?_
        intro v0 hheap hv0 hbw
        clear hheap hbw
        repeat (refine pl_q rfl ?_; go_big_quiet_step (fail); refine wpQuiet_nil ?_)
        refine pl_l rfl rfl ?_
        intro K hK
        go_simp
        refine (logNew_any _ xg _ (hsc.out.grow hv0)).mono ?_
        rintro r v1 ⟨bl, rfl, hbl, hlg, hbb⟩
        have hv1 := hv0.trans (hbb.mono hv0.size)
        have hlr := Lib.hid hlg.rd
        refine hK wc _ _ (Below.refl _ _) hv1 ?_
        clear hK K hbb hlg hbl
        refine pl_l rfl rfl ?_
        intro K hK
        go_simp
        refine (logLen_any bl _ _ hlr.out).mono ?_
        rintro r v2 ⟨rfl, rfl⟩
        refine hK wc _ _ (Below.refl _ _) hv1 ?_
        clear hK K
        repeat (refine pl_q rfl ?_; go_big_quiet_step (fail); refine wpQuiet_nil ?_)
        refine pl_fin ?_
        go_wp2_with fail
        go_meet
        exact ⟨by rw [hok2.out]; simp [hc1.out] <;> omega, hv1⟩
      have d2 : decide (xc < 0) = false := by simpa using c2
      by_cases c3 : (xg.length : Int) < xc
      · have d3 : decide ((xg.length : Int) < xc) = true := by simpa using c3
        refine wp_region_pl wc (.q 0 (.q 1 (.q 4 (.q 5 (.q 6 (.l 2 (.l 3 (.q 7 (.q 8 (.q 9 (.q 10 (.q 11 (.q 12 (.q 13 (.q 14 (.q 15 (.q 16 (.q 17 (.q 18 (.q 19 (.q 20 .fin))))))))))))))))))))) (by kernel_rfl) (by kernel_rfl) (Below.refl _ _) ?_
        intro v0 hheap hv0 hbw
        clear hheap hbw
        repeat (refine pl_q rfl ?_; go_big_quiet_step (fail); refine wpQuiet_nil ?_)
        refine pl_l rfl rfl ?_
        intro K hK
        go_simp
        refine (logNew_any _ xg _ (hsc.out.grow hv0)).mono ?_
        rintro r v1 ⟨bl, rfl, hbl, hlg, hbb⟩
        have hv1 := hv0.trans (hbb.mono hv0.size)
        have hlr := Lib.hid hlg.rd
        refine hK wc _ _ (Below.refl _ _) hv1 ?_
        clear hK K hbb hlg hbl
        refine pl_l rfl rfl ?_
        intro K hK
        go_simp
        refine (logLen_any bl _ _ hlr.out).mono ?_
        rintro r v2 ⟨rfl, rfl⟩
        refine hK wc _ _ (Below.refl _ _) hv1 ?_
        clear hK K
        repeat (refine pl_q rfl ?_; go_big_quiet_step (fail); refine wpQuiet_nil ?_)
        refine pl_fin ?_
        go_wp2_with fail
        go_meet
        exact ⟨by rw [hok2.out]; simp [hc1.out] <;> omega, hv1⟩
      have d3 : decide ((xg.length : Int) < xc) = false := by simpa using c3
      refine wp_region_pl wc (.q 0 (.q 1 (.q 4 (.q 5 (.q 6 (.l 2 (.l 3 (.q 7 (.q 8 (.q 9 (.q 10 (.q 11 (.q 12 (.q 13 (.q 14 (.q 15 (.q 16 (.q 17 (.q 18 (.q 19 (.q 20 .fin))))))))))))))))))))) (by kernel_rfl) (by kernel_rfl) (Below.refl _ _) ?_
      intro v0 hheap hv0 hbw
      clear hheap hbw
      repeat (refine pl_q rfl ?_; go_big_quiet_step (fail); refine wpQuiet_nil ?_)
      refine pl_l rfl rfl ?_
      intro K hK
      go_simp
      refine (logNew_any _ xg _ (hsc.out.grow hv0)).mono ?_
      rintro r v1 ⟨bl, rfl, hbl, hlg, hbb⟩
      have hv1 := hv0.trans (hbb.mono hv0.size)
      have hlr := Lib.hid hlg.rd
      refine hK wc _ _ (Below.refl _ _) hv1 ?_
      clear hK K hbb hlg hbl
      refine pl_l rfl rfl ?_
      intro K hK
      go_simp
      refine (logLen_any bl _ _ hlr.out).mono ?_
      rintro r v2 ⟨rfl, rfl⟩
      refine hK wc _ _ (Below.refl _ _) hv1 ?_
      clear hK K
      repeat (refine pl_q rfl ?_; go_big_quiet_step (fail); refine wpQuiet_nil ?_)
      refine pl_fin ?_
      go_wp2_with fail
      go_meet
      exact ⟨by rw [hok2.out]; simp [hc1.out] <;> omega, hv1⟩
    case rest =>
      obtain ⟨rfl, hbd⟩ := hcut
      cases ok
      · have hBd := hBc.out.trans (hbd.mono hBc.out.size)
        go_wp2
        go_ret
        exact ⟨rfl, by rw [VAdded, if_neg Bool.false_ne_true]; exact hBd⟩
      have h60 : xg.length ≤ 60 := by
        have h1 := hok2.out
        have h2 := logE_len xg
        simp at h1
        omega
      have hBd := hBc.out.trans (hbd.mono hBc.out.size)
      have hbx3 := at_below hbx2.out hbd
      have hr3 := hrc.out.grow hbd
      have hs3 := Lib.hid (hsc.out.grow hbd)
      have hblt3 : b < wc.heap.size := Nat.lt_of_lt_of_le hblt2 hbd.size
      have e2 := cell_at hbx3 2
      simp only [List.getElem?_toArray, List.getElem?_cons_zero, List.getElem?_cons_succ] at e2
      have hnbw := at_lt hbx3
      clear hbd hBc hbx2 hrc hsc
      replace hBd := Lib.hid hBd
      replace hbx3 := Lib.hid hbx3
      replace hr3 := Lib.hid hr3
      go_wp2_with fail
      refine (sClone_any _ xg _ hs3.out (by omega)).mono ?_
      rintro r w5 ⟨s', rfl, ho, hb5⟩
      obtain ⟨ta, tc, rfl⟩ := ho.rd.len
      have hbx5 := at_below hbx3.out hb5
      have hr5 := hr3.out.grow hb5
      have hB5 := hBd.out.trans (hb5.mono hBd.out.size)
      have q2 := cell_at hbx5 2
      simp only [List.getElem?_toArray, List.getElem?_cons_zero, List.getElem?_cons_succ] at q2
      have z2 := free_at hbx5 2
      have hlt5 := hb5.size
      clear e2 hb5
      obtain ⟨w6, hw6⟩ : ∃ W, W = w5.setCell ⟨nb, 2, none⟩ (.slice ta xg.length tc) := ⟨_, rfl⟩
      have hbx6 : w6.heap[nb]? = some (boxV xf xl (.slice ta xg.length tc) xc 47) := by rw [hw6]; exact set_at hbx5
      have hc56 : Chg (fun k => k = nb) w5 w6 := by rw [hw6]; exact chg_set (Chg.refl _ _) rfl
      have hr6 := hr5.chg hc56 (fun k hk e => by have := hlt.out k (.inl hk); have := hnb.out; omega) (fun k hk e => by have := hlt.out k (.inr hk); have := hnb.out; omega)
      have hs6 : rdE w6 (.slice ta xg.length tc) xg := ho.rd.chg hc56 fun k hk e => by have := (ho.lt k hk).1; omega
      have hsk : ∀ k, (Value.slice ta xg.length tc).ownBlock = some k → ¬ F k ∧ w.heap.size ≤ k ∧ k < w6.heap.size := fun k hk => by
        have h1 := ho.lt k hk
        have h2 := hc56.size
        have h3 := hBd.out.size
        exact ⟨fun f => by have := hlt.out k (.inl f); omega, by omega, by omega⟩
      have hB6 : Below w.heap.size w w6 := hB5.trans (hc56.below hB5.size fun k hk => by have := hnb.out; omega)
      have hblt6 : b < w6.heap.size := by have := hc56.size; omega
      have hbnb : ¬ b = nb := by have := hlt.out b (.inl hr5.1); have := hnb.out; omega
      clear hr5 hB5 ho hc56 hbx5 hr3 hbx3
      replace hbx6 := Lib.hid hbx6
      replace hr6 := Lib.hid hr6
      replace hs6 := Lib.hid hs6
      replace hsk := Lib.hid hsk
      replace hB6 := Lib.hid hB6
      go_upto_region 6 with (fail)
      rw [← hw6]
      clear hw6 q2 z2 hblt3
      obtain ⟨hFb, hFD, v, hvb, hvo, hvF, hlog⟩ := hr6.out
      have hsl : ∃ ao cap, v = .slice ao l.length cap := by
        rcases hvo.2 with ⟨h1, h2⟩ | ⟨g, cap, cur, h1, _⟩
        · exact ⟨none, 0, by rw [h1, h2]⟩
        · exact ⟨_, cap, h1⟩
      obtain ⟨ao, cap, rfl⟩ := hsl
      have hvn : (Value.slice ao l.length cap).ownBlock ≠ some b := by
        intro h
        rcases hvo.2 with ⟨h3, _⟩ | ⟨g, c, cur, h3, _, h4, _⟩
        · rw [h3] at h; cases h
        · rw [h3] at h; injection h with h; subst h
          rw [h4] at hvb; injection hvb with hvb; injection hvb with _ h5; cases h5
      have hcl : w6.cell? ⟨b, 2, none⟩ = some (.slice ao l.length cap) := by simp [World.cell?, hvb]
      have hfz6 : w6.frozen? ⟨b, 2, none⟩ = false := free_at hvb 2
      have e0 := cell_at hbx6.out 0
      have e1 := cell_at hbx6.out 1
      have e2 := cell_at hbx6.out 2
      have e3 := cell_at hbx6.out 3
      simp only [List.getElem?_toArray, List.getElem?_cons_zero, List.getElem?_cons_succ] at e0 e1 e2 e3
      have hbn6 : ¬ b = w6.heap.size := by omega
      have hnb6 := at_lt hbx6.out
      have hone : ∀ u, u ∈ VtS.cells ⟨⟨xf, xl, xg, xc⟩, .slice ta xg.length tc⟩ → u.oneCell' = true := by
        intro u hu; simp [VtS.cells] at hu; rcases hu with rfl | rfl | rfl | rfl <;> rfl
      replace hvb := Lib.hid hvb
      replace hvo := Lib.hid hvo
      replace hFD := Lib.hid hFD
      replace hvF := Lib.hid hvF
      replace hlog := Lib.hid hlog
      replace hone := Lib.hid hone
      go_region_law
        ((refine step_append_lies _ (by rfl) _ _ _ (by rfl) 0 47 i0 _ 4 48 Try.underlying39 hi.out hz0 hz1 hz2 rfl (by omega) (.slice ao l.length cap) l.length (flatV l) (by rfl) ((World.ownsRow.alloc hvo.out _).drew)
            ⟨w6.heap.size, 0, none⟩ 1 1 (VtS.cells ⟨⟨xf, xl, xg, xc⟩, .slice ta xg.length tc⟩) (by rfl) (by rfl) (World.news_of_block (cs := #[.int .i64 xf, .int .i64 xl, .slice ta xg.length tc, .int .i64 xc]) (t := 47) (fr := (0, 0)) (heap_alloc_new w6 _)) hone.out
            (by omega) (by unfold maxLen; omega) (by omega) (by simp) (w6.heap.size + 1) (by simp) ?_; intro gg cap1 w7 hown1 hgrow hat hlt7; have hfz7 : w7.frozen? ⟨b, 2, none⟩ = false := (hgrow.frozen_far ⟨b, 2, none⟩ (by simp <;> omega) (Ne.symm hvn)).trans ((World.frozen?_alloc_old w6 _ ⟨b, 2, none⟩ hbn6).trans hfz6); have hcl7 : w7.cell? ⟨b, 2, none⟩ = some (.slice ao l.length cap) := (hgrow.cell_far ⟨b, 2, none⟩ (by simp <;> omega) (Ne.symm hvn)).trans ((World.cell?_alloc_old w6 _ ⟨b, 2, none⟩ hbn6).trans hcl)))
      all_goals
        have hfin := vt_close (x := ⟨xf, xl, xg, xc⟩) (n' := l.length + 1) (l := l) hlt.out hB6.out hFb hFD.out hvb.out hvF.out hvn hlog.out hs6.out (fun k hk => ⟨(hsk.out k hk).1, (hsk.out k hk).2.2⟩) (by simp) (by rw [flatV_snoc]; exact hown1) hgrow hat hlt7
        replace hfin := Lib.hid hfin
        have hz7 : w6.heap.size ≤ w7.heap.size := by have := hgrow.size; simp at this; omega
        clear hown1 hgrow hat hfz7 hcl7
        go_wp2
        go_ret
        refine ⟨rfl, ?_⟩
        rw [VAdded, if_pos rfl]
        obtain ⟨g1, g2, g3⟩ := hfin.out
        refine ⟨_, _, _, g1, g2, ?_, g3⟩
        rintro k (hk | hk)
        · exact .inl hk
        · exact .inr (.inl ⟨(hsk.out k hk).2.1, by rw [World.size_setCell]; have := (hsk.out k hk).2.2; omega⟩)
end Go.Proofs.Ytacchkmdheglaaa
