/- Of a greater number there is no more; of more than there are none. -/
import Derived.Test.YtimffflhfaiakaaCrF
import Derived.Test.YtimffflhfaiakaaCrR
import Derived.Test.YtimffflhfaiakaaFrame
namespace Go.Proofs.Ytimffflhfaiakaa.lawCrossMost
open Go.ChangeShapes Go.WideShapes Go.ChangeAt Go.RowKit
set_option linter.unusedVariables false

set_option maxRecDepth 100000 in
set_option maxHeartbeats 8000000 in
theorem walk (v : Value) (l : List Rg) (n t : Int) (w : World) (hr : rdR w v l) (hok : okR l) (hn : I64 n) (ht : I64 t) :
    Calls Try.prog 8 #[v, .int .i64 n, .int .i64 t] w fun e w' => e = .returned (.bool true) ∧ Below w.heap.size w w' := by
  obtain ⟨ht1, ht2⟩ := ht
  obtain ⟨hn1, hn2⟩ := hn
  replace hr := Lib.hid hr
  have hB := Lib.hid (Below.refl w.heap.size w)
  go_enter Try.func8, Try.ntmps8
  go_wp2_with fail
  refine (b10_any _).mono ?_
  rintro r w1 ⟨rfl, hb1⟩
  replace hB := Lib.hid (hB.out.trans (hb1.mono hB.out.size))
  replace hr := Lib.hid (hr.out.grow hb1)
  clear hb1
  go_wp2_with fail
  refine (of10_any v l _ hr.out).mono ?_
  rintro r w2 ⟨v2, u, rfl, hr2, hu, hb2⟩
  clear hr
  replace hB := Lib.hid (hB.out.trans (hb2.mono hB.out.size))
  clear hb2
  have hok2 := okR_take hok 12
  have hl12 : (l.take 12).length ≤ 12 := by rw [List.length_take]; omega
  generalize l.take 12 = L at hr2 hok2 hl12 hu
  clear hok
  replace hr2 := Lib.hid hr2
  clear hu
  by_cases c1 : n < 1
  · go_wp2
    go_ret
    exact ⟨rfl, hB.out⟩
  by_cases c2 : n > 15
  · go_wp2
    go_ret
    exact ⟨rfl, hB.out⟩
  have hS := best_spec L hok2
  have hA := most_spec L hok2 n (by omega)
  have hC := most_spec L hok2 (n + 1) (by omega)
  obtain ⟨⟨⟨rl, rh⟩, k⟩, hbst⟩ : ∃ x, bestR L = x := ⟨_, rfl⟩
  obtain ⟨⟨⟨al, ah⟩, ok⟩, hma⟩ : ∃ x, mostR L n = x := ⟨_, rfl⟩
  obtain ⟨⟨⟨bl, bh⟩, ok2⟩, hmb⟩ : ∃ x, mostR L (n + 1) = x := ⟨_, rfl⟩
  rw [hbst] at hS
  rw [hma] at hA
  rw [hmb] at hC
  dsimp only at hS hA hC
  replace hbst := Lib.hid hbst
  replace hma := Lib.hid hma
  replace hmb := Lib.hid hmb
  have hq1 : ok = true → n ≤ (k : Int) := fun h => by
    have e1 : n ≤ (cntR L al : Int) := hA.low h
    have e2 : cntR L al ≤ k := hS.top al (hA.rng h).1.2
    omega
  have hq2 : ok = false → (k : Int) < n := fun h => by
    rcases Nat.eq_zero_or_pos k with h0 | h0
    · omega
    · have e := hS.same h0 rl (Int.le_refl _) (hS.rng h0).2.2
      have := (hA.no h).2 rl (hS.rng h0).1.2
      omega
  have hq3 : ok2 = true → ok = true ∧ al ≤ bl ∧ bh ≤ ah := fun h => by
    have b1 := hC.low h
    have b2 := hC.high h
    have b3 := (hC.rng h).1.2
    have b4 := (hC.rng h).2.2
    dsimp only at b1 b2 b3 b4
    cases hk : ok with
    | false => have := (hA.no hk).2 bl b3; omega
    | true =>
      have c1 := hA.all hk bl b3 (by omega)
      have c2 := hA.all hk bh b4 (by omega)
      exact ⟨rfl, c1.1, c2.2⟩
  have hq4 : ok = true → n ≤ (cntR L al : Int) ∧ n ≤ (cntR L ah : Int) ∧ (¬ (al ≤ t ∧ t ≤ ah) → (cntR L t : Int) < n) := fun h => by
    refine ⟨hA.low h, hA.high h, fun h2 => ?_⟩
    rcases Int.lt_or_le (cntR L t : Int) n with h3 | h3
    · exact h3
    · exact absurd (hA.all h t ht2 h3) h2
  clear hS hA hC
  replace hq1 := Lib.hid hq1
  replace hq2 := Lib.hid hq2
  replace hq3 := Lib.hid hq3
  replace hq4 := Lib.hid hq4
  go_wp2_with fail
  refine (xMost_any _ L n _ hr2.out hok2 (by omega) ⟨by omega, by omega⟩).mono ?_
  rintro r w3 ⟨rfl, hb3⟩
  rw [hma.out]
  replace hB := Lib.hid (hB.out.trans (hb3.mono hB.out.size))
  replace hr2 := Lib.hid (hr2.out.grow hb3)
  clear hb3
  obtain ⟨wa1, hwa1⟩ : ∃ W, W = w3.alloc (.cells #[.int .i64 al, .int .i64 ah] 28) := ⟨_, rfl⟩
  have hba : Below w3.heap.size w3 wa1 := hwa1 ▸ (Below.refl _ _).alloc (Nat.le_refl _) _
  have hx1 : wa1.heap[w3.heap.size]? = some (.cells #[.int .i64 al, .int .i64 ah] 28 (0, 0)) := hwa1 ▸ at_new _ _
  obtain ⟨n1, hn1⟩ : ∃ n, n = w3.heap.size := ⟨_, rfl⟩
  rw [← hn1] at hx1
  replace hx1 := Lib.hid hx1
  replace hB := Lib.hid (hB.out.trans (hba.mono hB.out.size))
  replace hr2 := Lib.hid (hr2.out.grow hba)
  clear hba
  go_upto_region 8 with (fail)
  rw [← hwa1, ← hn1]
  clear hwa1
  replace hn1 := Lib.hid hn1
  go_wp2_with fail
  refine (xMost_any _ L (n + 1) _ hr2.out hok2 (by omega) ⟨by omega, by omega⟩).mono ?_
  rintro r w4 ⟨rfl, hb4⟩
  rw [hmb.out]
  replace hB := Lib.hid (hB.out.trans (hb4.mono hB.out.size))
  replace hr2 := Lib.hid (hr2.out.grow hb4)
  replace hx1 := Lib.hid (at_below hx1.out hb4)
  clear hb4
  obtain ⟨wa2, hwa2⟩ : ∃ W, W = w4.alloc (.cells #[.int .i64 bl, .int .i64 bh] 28) := ⟨_, rfl⟩
  have hba : Below w4.heap.size w4 wa2 := hwa2 ▸ (Below.refl _ _).alloc (Nat.le_refl _) _
  have hx2 : wa2.heap[w4.heap.size]? = some (.cells #[.int .i64 bl, .int .i64 bh] 28 (0, 0)) := hwa2 ▸ at_new _ _
  obtain ⟨n2, hn2⟩ : ∃ n, n = w4.heap.size := ⟨_, rfl⟩
  rw [← hn2] at hx2
  replace hx2 := Lib.hid hx2
  replace hB := Lib.hid (hB.out.trans (hba.mono hB.out.size))
  replace hr2 := Lib.hid (hr2.out.grow hba)
  replace hx1 := Lib.hid (at_below hx1.out hba)
  clear hba
  go_upto_region 9 with (fail)
  rw [← hwa2, ← hn2]
  clear hwa2
  replace hn2 := Lib.hid hn2
  go_wp2_with fail
  refine (xBest_any _ L _ hr2.out hok2 (by omega)).mono ?_
  rintro r w5 ⟨rfl, hb5⟩
  rw [hbst.out]
  replace hB := Lib.hid (hB.out.trans (hb5.mono hB.out.size))
  replace hr2 := Lib.hid (hr2.out.grow hb5)
  replace hx1 := Lib.hid (at_below hx1.out hb5)
  replace hx2 := Lib.hid (at_below hx2.out hb5)
  clear hb5
  obtain ⟨wa3, hwa3⟩ : ∃ W, W = w5.alloc (.cells #[.int .i64 rl, .int .i64 rh] 28) := ⟨_, rfl⟩
  have hba : Below w5.heap.size w5 wa3 := hwa3 ▸ (Below.refl _ _).alloc (Nat.le_refl _) _
  have hx3 : wa3.heap[w5.heap.size]? = some (.cells #[.int .i64 rl, .int .i64 rh] 28 (0, 0)) := hwa3 ▸ at_new _ _
  obtain ⟨n3, hn3⟩ : ∃ n, n = w5.heap.size := ⟨_, rfl⟩
  rw [← hn3] at hx3
  replace hx3 := Lib.hid hx3
  replace hB := Lib.hid (hB.out.trans (hba.mono hB.out.size))
  replace hr2 := Lib.hid (hr2.out.grow hba)
  replace hx1 := Lib.hid (at_below hx1.out hba)
  replace hx2 := Lib.hid (at_below hx2.out hba)
  clear hba
  go_upto_region 10 with (fail)
  rw [← hwa3, ← hn3]
  clear hwa3
  replace hn3 := Lib.hid hn3
  have f0 := cell_at hx1.out 0
  have f1 := cell_at hx1.out 1
  simp only [List.getElem?_toArray, List.getElem?_cons_zero, List.getElem?_cons_succ] at f0 f1
  have g0 := cell_at hx2.out 0
  have g1 := cell_at hx2.out 1
  simp only [List.getElem?_toArray, List.getElem?_cons_zero, List.getElem?_cons_succ] at g0 g1
  go_cut [71] (fun s wx => s = .bool false ∧ wx = wa3)
  case first =>
    cases ok with
    | false =>
      cases ok2 with
      | false =>
        have hk := hq2.out rfl
        have hk2 : ¬ (k : Int) ≥ n := by omega
        go_wp2_with fail
        go_meet
        exact ⟨by simp <;> omega, rfl⟩
      | true => exact absurd (hq3.out rfl).1 (by simp)
    | true =>
      have hk := hq1.out rfl
      have hk2 : (k : Int) ≥ n := by omega
      cases ok2 with
      | false =>
        go_wp2_with fail
        go_meet
        exact ⟨by simp <;> omega, rfl⟩
      | true =>
        obtain ⟨_, p1, p2⟩ := hq3.out rfl
        go_wp2_with fail
        go_meet
        exact ⟨by simp <;> omega, rfl⟩
  case rest =>
    obtain ⟨rfl, rfl⟩ := hcut
    cases ok with
    | false =>
      go_wp2
      go_ret
      exact ⟨rfl, hB.out⟩
    | true =>
      obtain ⟨p1, p2, p3⟩ := hq4.out rfl
      obtain ⟨ca, hca⟩ : ∃ c, cntR L al = c := ⟨_, rfl⟩
      obtain ⟨cb, hcb⟩ : ∃ c, cntR L ah = c := ⟨_, rfl⟩
      obtain ⟨cc, hcc⟩ : ∃ c, cntR L t = c := ⟨_, rfl⟩
      rw [hca] at p1
      rw [hcb] at p2
      rw [hcc] at p3
      replace hca := Lib.hid hca
      replace hcb := Lib.hid hcb
      replace hcc := Lib.hid hcc
      replace p3 := Lib.hid p3
      clear g0 g1
      have p1' : (ca : Int) ≥ n := p1
      have p2' : (cb : Int) ≥ n := p2
      go_wp2_with fail
      refine (xCount_any _ L al _ hr2.out).mono ?_
      rintro r wc6 ⟨rfl, hbc6⟩
      rw [hca.out]
      replace hB := Lib.hid (hB.out.trans (hbc6.mono hB.out.size))
      replace hr2 := Lib.hid (hr2.out.grow hbc6)
      replace hx1 := Lib.hid (at_below hx1.out hbc6)
      clear hbc6
      clear f0 f1
      have f0 := cell_at hx1.out 0
      have f1 := cell_at hx1.out 1
      simp only [List.getElem?_toArray, List.getElem?_cons_zero, List.getElem?_cons_succ] at f0 f1
      go_wp2_with fail
      refine (xCount_any _ L ah _ hr2.out).mono ?_
      rintro r wc7 ⟨rfl, hbc7⟩
      rw [hcb.out]
      replace hB := Lib.hid (hB.out.trans (hbc7.mono hB.out.size))
      replace hr2 := Lib.hid (hr2.out.grow hbc7)
      replace hx1 := Lib.hid (at_below hx1.out hbc7)
      clear hbc7
      clear f0 f1
      have f0 := cell_at hx1.out 0
      have f1 := cell_at hx1.out 1
      simp only [List.getElem?_toArray, List.getElem?_cons_zero, List.getElem?_cons_succ] at f0 f1
      by_cases g1 : al ≤ t
      · by_cases g2 : t ≤ ah
        · go_wp2
          go_ret
          exact ⟨rfl, hB.out⟩
        · have hlt := p3.out (by omega)
          go_wp2_with fail
          refine (xCount_any _ L t _ hr2.out).mono ?_
          rintro r wc8 ⟨rfl, hbc8⟩
          rw [hcc.out]
          replace hB := Lib.hid (hB.out.trans (hbc8.mono hB.out.size))
          replace hr2 := Lib.hid (hr2.out.grow hbc8)
          replace hx1 := Lib.hid (at_below hx1.out hbc8)
          clear hbc8
          clear f0 f1
          have f0 := cell_at hx1.out 0
          have f1 := cell_at hx1.out 1
          simp only [List.getElem?_toArray, List.getElem?_cons_zero, List.getElem?_cons_succ] at f0 f1
          go_wp2
          go_ret
          exact ⟨rfl, hB.out⟩
      · have hlt := p3.out (by omega)
        go_wp2_with fail
        refine (xCount_any _ L t _ hr2.out).mono ?_
        rintro r wc8 ⟨rfl, hbc8⟩
        rw [hcc.out]
        replace hB := Lib.hid (hB.out.trans (hbc8.mono hB.out.size))
        replace hr2 := Lib.hid (hr2.out.grow hbc8)
        replace hx1 := Lib.hid (at_below hx1.out hbc8)
        clear hbc8
        clear f0 f1
        have f0 := cell_at hx1.out 0
        have f1 := cell_at hx1.out 1
        simp only [List.getElem?_toArray, List.getElem?_cons_zero, List.getElem?_cons_succ] at f0 f1
        go_wp2
        go_ret
        exact ⟨rfl, hB.out⟩

/-! the row's step, written out by law.py -/
set_option maxRecDepth 100000 in
theorem lifted (os : Os) (started : os.Started) (H : Type) (enc : TypeId × Value → H) :
    ReturnsInHanded {} Try.checked os 8 .any (Rows.crossMostSpec.pre6 enc Try.prog Try.f8 Rows.crossMostRow.domain false) (Rows.crossMostSpec.post enc Try.prog Try.f8 false true false false) := by
  refine returnsInHanded_of_change (C := Try.checked) own started (by kernel_rfl) Try.func8
    (ChangeSpec.witness6 (enc := enc) (C := Try.checked) false ⟨#[], #[.slice none 0 0, .int .i64 0, .int .i64 0], []⟩ 8 (by kernel_rfl) (by kernel_rfl) (by kernel_rfl) (by kernel_rfl)) ?_
  intro W base args ds gs before hval0 hW hcnd _
  have hval : ∀ (j : Nat) t v, Try.f8.params[j]? = some t → args[j]? = some v → Value.okWide Try.prog W .any base t v := hval0
  have hW' := hW
  obtain ⟨p, q, hA0, hV, rfl, hfz, hnd⟩ := hW
  have hA : DataW.TrodAll enc Try.prog W 0 (fun _ => true) true Try.f8.params.toList args.toList ds p := hA0
  rw [Try.params8] at hA hval
  obtain ⟨v0, vs0, d0, ds0, p0, q0, hargs, rfl, rfl, h0, r0⟩ := trodAll_cons hA
  obtain ⟨v1, vs1, d1, ds1, p1, q1, rfl, rfl, rfl, h1, r1⟩ := trodAll_cons r0
  obtain ⟨v2, vs2, d2, ds2, p2, q2, rfl, rfl, rfl, h2, r2⟩ := trodAll_cons r1
  obtain ⟨rfl, rfl, rfl⟩ := trodAll_nil r2
  obtain rfl : args = #[v0, v1, v2] := by cases args; simp_all
  obtain ⟨rfl, rfl⟩ := trodVars_none hV
  have k0 := h0
  have lt0 : ∀ x ∈ p0, x.block < W.heap.size := by obtain ⟨m, hm⟩ := k0; exact DataW.trod_lt m _ _ _ hm
  have k1 := h1
  have lt1 : ∀ x ∈ p1, x.block < W.heap.size := by obtain ⟨m, hm⟩ := k1; exact DataW.trod_lt m _ _ _ hm
  have k2 := h2
  have lt2 : ∀ x ∈ p2, x.block < W.heap.size := by obtain ⟨m, hm⟩ := k2; exact DataW.trod_lt m _ _ _ hm
  obtain ⟨l0, w0, b0⟩ := slrange_open (hval 0 22 v0 rfl rfl) h0
  obtain ⟨a1, rfl, rfl, rfl, w1⟩ := open_int Try.underlying3 (hval 1 3 v1 rfl rfl) h1
  have w1 := bounds_i64 w1
  obtain ⟨a2, rfl, rfl, rfl, w2⟩ := open_int Try.underlying2 (hval 2 2 v2 rfl rfl) h2
  have w2 := bounds_i64 w2
  clear hA0 hval0
  simp only [List.append_nil] at hW'
  refine (walk v0 l0 a1 a2 W w0 b0 w1 w2).mono fun e W' ⟨he, bel⟩ => ?_
  subst he
  exact ⟨_, rfl, _, _, _, [], _, [], hW', trodAll_mk1 (shut_bool Try.underlying4 _), (trodAll_cons_mk (Below.trod laidOut (by kernel_rfl) (of_decide_eq_true (by kernel_rfl)) k0 bel lt0) (trodAll_cons_mk (Below.trod laidOut (by kernel_rfl) (of_decide_eq_true (by kernel_rfl)) k1 bel lt1) (trodAll_cons_mk (Below.trod laidOut (by kernel_rfl) (of_decide_eq_true (by kernel_rfl)) k2 bel lt2) trodAll_mk0))), rfl, bel.frame _, fun h => by cases h⟩

theorem over : Rows.crossMostRow.holds Try.pinned (OpenSpec.ofChange Rows.crossMostSpec) :=
  OpenClaim.holds_of_wide 8 Try.f8 rfl rfl rfl rfl rfl rfl rfl ⟨rfl, rfl, rfl, rfl, rfl⟩ rfl rfl rfl rfl rfl (by kernel_rfl) Try.func8 (by kernel_rfl)
    (of_decide_eq_true (by kernel_rfl)) (by unfold Func.isWrapper; first | (rw [if_pos (by decide +kernel)]; kernel_rfl) | (rw [if_neg (by decide +kernel)]; exact ⟨rfl, rfl⟩))
    (fun os started H enc _ => lifted os started H enc)

theorem proved : Rows.CrossMostSaid := over
end Go.Proofs.Ytimffflhfaiakaa.lawCrossMost
