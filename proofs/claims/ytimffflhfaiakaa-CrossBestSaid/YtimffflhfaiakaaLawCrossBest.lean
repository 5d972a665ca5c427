/- Each time of the best run has the greatest count; beside its ends it is another one. -/
import Derived.Test.YtimffflhfaiakaaCrF
import Derived.Test.YtimffflhfaiakaaCrR
import Derived.Test.YtimffflhfaiakaaFrame
namespace Go.Proofs.Ytimffflhfaiakaa.lawCrossBest
open Go.ChangeShapes Go.WideShapes Go.ChangeAt Go.RowKit
set_option linter.unusedVariables false

set_option maxRecDepth 100000 in
set_option maxHeartbeats 8000000 in
theorem walk (v : Value) (l : List Rg) (t : Int) (w : World) (hr : rdR w v l) (hok : okR l) (ht : I64 t) :
    Calls Try.prog 6 #[v, .int .i64 t] w fun e w' => e = .returned (.bool true) ∧ Below w.heap.size w w' := by
  obtain ⟨ht1, ht2⟩ := ht
  replace hr := Lib.hid hr
  have hB := Lib.hid (Below.refl w.heap.size w)
  go_enter Try.func6, Try.ntmps6
  go_wp2_with fail
  refine (b10_any _).mono ?_
  rintro r w1 ⟨rfl, hb1⟩
  replace hB := Lib.hid (hB.out.trans (hb1.mono hB.out.size))
  replace hr := Lib.hid (hr.out.grow hb1)
  clear hb1
  go_wp2_with fail
  refine (of10_any v l _ hr.out).mono ?_
  rintro r w2 ⟨v2, u, rfl, hr2, hu, hb2⟩
  clear hr
  replace hB := Lib.hid (hB.out.trans (hb2.mono hB.out.size))
  clear hb2
  have hok2 := okR_take hok 12
  have hl12 : (l.take 12).length ≤ 12 := by rw [List.length_take]; omega
  generalize l.take 12 = L at hr2 hok2 hl12 hu
  clear hok
  replace hr2 := Lib.hid hr2
  clear hu
  have hS := best_spec L hok2
  obtain ⟨⟨⟨bl, bh⟩, n⟩, hbst⟩ : ∃ x, bestR L = x := ⟨_, rfl⟩
  rw [hbst] at hS
  dsimp only at hS
  replace hbst := Lib.hid hbst
  have htop := hS.top t ht2
  replace hS := Lib.hid hS
  go_wp2_with fail
  refine (xBest_any _ L _ hr2.out hok2 (by omega)).mono ?_
  rintro r w3 ⟨rfl, hb3⟩
  rw [hbst.out]
  replace hB := Lib.hid (hB.out.trans (hb3.mono hB.out.size))
  replace hr2 := Lib.hid (hr2.out.grow hb3)
  clear hb3
  obtain ⟨wa1, hwa1⟩ : ∃ W, W = w3.alloc (.cells #[.int .i64 bl, .int .i64 bh] 28) := ⟨_, rfl⟩
  have hba : Below w3.heap.size w3 wa1 := hwa1 ▸ (Below.refl _ _).alloc (Nat.le_refl _) _
  have hx1 : wa1.heap[w3.heap.size]? = some (.cells #[.int .i64 bl, .int .i64 bh] 28 (0, 0)) := hwa1 ▸ at_new _ _
  obtain ⟨n1, hn1⟩ : ∃ n, n = w3.heap.size := ⟨_, rfl⟩
  rw [← hn1] at hx1
  replace hx1 := Lib.hid hx1
  replace hB := Lib.hid (hB.out.trans (hba.mono hB.out.size))
  replace hr2 := Lib.hid (hr2.out.grow hba)
  clear hba
  go_upto_region 6 with (fail)
  rw [← hwa1, ← hn1]
  clear hwa1
  replace hn1 := Lib.hid hn1
  obtain ⟨c, hc⟩ : ∃ c, cntR L t = c := ⟨_, rfl⟩
  rw [hc] at htop
  replace hc := Lib.hid hc
  go_wp2_with fail
  refine (xCount_any _ L t _ hr2.out).mono ?_
  rintro r w4 ⟨rfl, hb4⟩
  rw [hc.out]
  replace hB := Lib.hid (hB.out.trans (hb4.mono hB.out.size))
  replace hr2 := Lib.hid (hr2.out.grow hb4)
  replace hx1 := Lib.hid (at_below hx1.out hb4)
  clear hb4
  have f0 := cell_at hx1.out 0
  have f1 := cell_at hx1.out 1
  simp only [List.getElem?_toArray, List.getElem?_cons_zero, List.getElem?_cons_succ] at f0 f1
  by_cases h0 : n = 0
  · have e := hS.out.none h0
    injection e with e1 e2
    subst h0 e1 e2
    go_wp2
    go_ret
    exact ⟨rfl, hB.out⟩
  obtain ⟨⟨r1, r2⟩, ⟨r3, r4⟩, r5⟩ := hS.out.rng (by omega)
  have hsame := Lib.hid (hS.out.same (by omega))
  have haft := Lib.hid (hS.out.after (by omega))
  have hbef := Lib.hid (hS.out.before (by omega))
  have hlo := Lib.hid (hsame.out bl (Int.le_refl _) r5)
  have hhi := Lib.hid (hsame.out bh r5 (Int.le_refl _))
  have hB0 := Lib.hid (Below.refl w4.heap.size w4)
  clear hS
  go_upto_region 10 with (fail)
  go_cut [75] (fun s wx => s = .bool false ∧ Below w4.heap.size w4 wx)
  case first =>
    go_wp2_with fail
    refine (xCount_any _ L bl _ hr2.out).mono ?_
    rintro r wc1 ⟨rfl, hbc1⟩
    rw [hlo.out]
    replace hr2 := Lib.hid (hr2.out.grow hbc1)
    replace hx1 := Lib.hid (at_below hx1.out hbc1)
    replace hB0 := Lib.hid (hB0.out.trans (hbc1.mono hB0.out.size))
    clear hbc1
    clear f0 f1
    have f0 := cell_at hx1.out 0
    have f1 := cell_at hx1.out 1
    simp only [List.getElem?_toArray, List.getElem?_cons_zero, List.getElem?_cons_succ] at f0 f1
    go_wp2_with fail
    refine (xCount_any _ L bh _ hr2.out).mono ?_
    rintro r wc2 ⟨rfl, hbc2⟩
    rw [hhi.out]
    replace hr2 := Lib.hid (hr2.out.grow hbc2)
    replace hx1 := Lib.hid (at_below hx1.out hbc2)
    replace hB0 := Lib.hid (hB0.out.trans (hbc2.mono hB0.out.size))
    clear hbc2
    clear f0 f1
    have f0 := cell_at hx1.out 0
    have f1 := cell_at hx1.out 1
    simp only [List.getElem?_toArray, List.getElem?_cons_zero, List.getElem?_cons_succ] at f0 f1
    by_cases g1 : bl ≤ t
    · by_cases g2 : t ≤ bh
      · have hin := Lib.hid (hsame.out t g1 g2)
        go_wp2_with fail
        refine (xCount_any _ L t _ hr2.out).mono ?_
        rintro r wc3 ⟨rfl, hbc3⟩
        rw [hin.out]
        replace hr2 := Lib.hid (hr2.out.grow hbc3)
        replace hx1 := Lib.hid (at_below hx1.out hbc3)
        replace hB0 := Lib.hid (hB0.out.trans (hbc3.mono hB0.out.size))
        clear hbc3
        clear f0 f1
        have f0 := cell_at hx1.out 0
        have f1 := cell_at hx1.out 1
        simp only [List.getElem?_toArray, List.getElem?_cons_zero, List.getElem?_cons_succ] at f0 f1
        go_wp2_with fail
        go_meet
        exact ⟨by simp <;> omega, hB0.out⟩
      · go_wp2_with fail
        go_meet
        exact ⟨by simp <;> omega, hB0.out⟩
    · go_wp2_with fail
      go_meet
      exact ⟨by simp <;> omega, hB0.out⟩
  case rest =>
    obtain ⟨rfl, hbx⟩ := hcut
    clear hB0 hsame f0 f1
    replace hB := Lib.hid (hB.out.trans (hbx.mono hB.out.size))
    replace hr2 := Lib.hid (hr2.out.grow hbx)
    replace hx1 := Lib.hid (at_below hx1.out hbx)
    clear hbx
    have f0 := cell_at hx1.out 0
    have f1 := cell_at hx1.out 1
    simp only [List.getElem?_toArray, List.getElem?_cons_zero, List.getElem?_cons_succ] at f0 f1
    by_cases g1 : bh = 9223372036854775807
    · subst g1
      by_cases g2 : bl = -9223372036854775808
      · subst g2
        go_wp2
        go_ret
        exact ⟨rfl, hB.out⟩
      · have d2 : (bl == -9223372036854775808) = false := by simpa using g2
        have hc2 := hbef.out
        obtain ⟨c2, hcc2⟩ : ∃ c2, cntR L (bl - 1) = c2 := ⟨_, rfl⟩
        rw [hcc2] at hc2
        replace hcc2 := Lib.hid hcc2
        go_wp2_with fail
        refine (xCount_any _ L (bl - 1) _ hr2.out).mono ?_
        rintro r wc5 ⟨rfl, hbc5⟩
        rw [hcc2.out]
        replace hB := Lib.hid (hB.out.trans (hbc5.mono hB.out.size))
        replace hr2 := Lib.hid (hr2.out.grow hbc5)
        replace hx1 := Lib.hid (at_below hx1.out hbc5)
        clear hbc5
        clear f0 f1
        have f0 := cell_at hx1.out 0
        have f1 := cell_at hx1.out 1
        simp only [List.getElem?_toArray, List.getElem?_cons_zero, List.getElem?_cons_succ] at f0 f1
        have d4 : ((c2 : Int) != (n : Int)) = true := by simp; omega
        go_wp2
        go_ret
        exact ⟨rfl, hB.out⟩
    · have d1 : (bh == 9223372036854775807) = false := by simpa using g1
      have hc1 := haft.out (by unfold maxI; omega)
      obtain ⟨c1, hcc1⟩ : ∃ c1, cntR L (bh + 1) = c1 := ⟨_, rfl⟩
      rw [hcc1] at hc1
      replace hcc1 := Lib.hid hcc1
      go_wp2_with fail
      refine (xCount_any _ L (bh + 1) _ hr2.out).mono ?_
      rintro r wc4 ⟨rfl, hbc4⟩
      rw [hcc1.out]
      replace hB := Lib.hid (hB.out.trans (hbc4.mono hB.out.size))
      replace hr2 := Lib.hid (hr2.out.grow hbc4)
      replace hx1 := Lib.hid (at_below hx1.out hbc4)
      clear hbc4
      clear f0 f1
      have f0 := cell_at hx1.out 0
      have f1 := cell_at hx1.out 1
      simp only [List.getElem?_toArray, List.getElem?_cons_zero, List.getElem?_cons_succ] at f0 f1
      have d3 : ((c1 : Int) != (n : Int)) = true := by simp; omega
      by_cases g2 : bl = -9223372036854775808
      · subst g2
        go_wp2
        go_ret
        exact ⟨rfl, hB.out⟩
      · have d2 : (bl == -9223372036854775808) = false := by simpa using g2
        have hc2 := hbef.out
        obtain ⟨c2, hcc2⟩ : ∃ c2, cntR L (bl - 1) = c2 := ⟨_, rfl⟩
        rw [hcc2] at hc2
        replace hcc2 := Lib.hid hcc2
        go_wp2_with fail
        refine (xCount_any _ L (bl - 1) _ hr2.out).mono ?_
        rintro r wc5 ⟨rfl, hbc5⟩
        rw [hcc2.out]
        replace hB := Lib.hid (hB.out.trans (hbc5.mono hB.out.size))
        replace hr2 := Lib.hid (hr2.out.grow hbc5)
        replace hx1 := Lib.hid (at_below hx1.out hbc5)
        clear hbc5
        clear f0 f1
        have f0 := cell_at hx1.out 0
        have f1 := cell_at hx1.out 1
        simp only [List.getElem?_toArray, List.getElem?_cons_zero, List.getElem?_cons_succ] at f0 f1
        have d4 : ((c2 : Int) != (n : Int)) = true := by simp; omega
        go_wp2
        go_ret
        exact ⟨rfl, hB.out⟩

/-! the row's step, written out by law.py -/
set_option maxRecDepth 100000 in
theorem lifted (os : Os) (started : os.Started) (H : Type) (enc : TypeId × Value → H) :
    ReturnsInHanded {} Try.checked os 6 .any (Rows.crossBestSpec.pre6 enc Try.prog Try.f6 Rows.crossBestRow.domain false) (Rows.crossBestSpec.post enc Try.prog Try.f6 false true false false) := by
  refine returnsInHanded_of_change (C := Try.checked) own started (by kernel_rfl) Try.func6
    (ChangeSpec.witness6 (enc := enc) (C := Try.checked) false ⟨#[], #[.slice none 0 0, .int .i64 0], []⟩ 8 (by kernel_rfl) (by kernel_rfl) (by kernel_rfl) (by kernel_rfl)) ?_
  intro W base args ds gs before hval0 hW hcnd _
  have hval : ∀ (j : Nat) t v, Try.f6.params[j]? = some t → args[j]? = some v → Value.okWide Try.prog W .any base t v := hval0
  have hW' := hW
  obtain ⟨p, q, hA0, hV, rfl, hfz, hnd⟩ := hW
  have hA : DataW.TrodAll enc Try.prog W 0 (fun _ => true) true Try.f6.params.toList args.toList ds p := hA0
  rw [Try.params6] at hA hval
  obtain ⟨v0, vs0, d0, ds0, p0, q0, hargs, rfl, rfl, h0, r0⟩ := trodAll_cons hA
  obtain ⟨v1, vs1, d1, ds1, p1, q1, rfl, rfl, rfl, h1, r1⟩ := trodAll_cons r0
  obtain ⟨rfl, rfl, rfl⟩ := trodAll_nil r1
  obtain rfl : args = #[v0, v1] := by cases args; simp_all
  obtain ⟨rfl, rfl⟩ := trodVars_none hV
  have k0 := h0
  have lt0 : ∀ x ∈ p0, x.block < W.heap.size := by obtain ⟨m, hm⟩ := k0; exact DataW.trod_lt m _ _ _ hm
  have k1 := h1
  have lt1 : ∀ x ∈ p1, x.block < W.heap.size := by obtain ⟨m, hm⟩ := k1; exact DataW.trod_lt m _ _ _ hm
  obtain ⟨l0, w0, b0⟩ := slrange_open (hval 0 22 v0 rfl rfl) h0
  obtain ⟨a1, rfl, rfl, rfl, w1⟩ := open_int Try.underlying2 (hval 1 2 v1 rfl rfl) h1
  have w1 := bounds_i64 w1
  clear hA0 hval0
  simp only [List.append_nil] at hW'
  refine (walk v0 l0 a1 W w0 b0 w1).mono fun e W' ⟨he, bel⟩ => ?_
  subst he
  exact ⟨_, rfl, _, _, _, [], _, [], hW', trodAll_mk1 (shut_bool Try.underlying4 _), (trodAll_cons_mk (Below.trod laidOut (by kernel_rfl) (of_decide_eq_true (by kernel_rfl)) k0 bel lt0) (trodAll_cons_mk (Below.trod laidOut (by kernel_rfl) (of_decide_eq_true (by kernel_rfl)) k1 bel lt1) trodAll_mk0)), rfl, bel.frame _, fun h => by cases h⟩

theorem over : Rows.crossBestRow.holds Try.pinned (OpenSpec.ofChange Rows.crossBestSpec) :=
  OpenClaim.holds_of_wide 6 Try.f6 rfl rfl rfl rfl rfl rfl rfl ⟨rfl, rfl, rfl, rfl, rfl⟩ rfl rfl rfl rfl rfl (by kernel_rfl) Try.func6 (by kernel_rfl)
    (of_decide_eq_true (by kernel_rfl)) (by unfold Func.isWrapper; first | (rw [if_pos (by decide +kernel)]; kernel_rfl) | (rw [if_neg (by decide +kernel)]; exact ⟨rfl, rfl⟩))
    (fun os started H enc _ => lifted os started H enc)

theorem proved : Rows.CrossBestSaid := over
end Go.Proofs.Ytimffflhfaiakaa.lawCrossBest
