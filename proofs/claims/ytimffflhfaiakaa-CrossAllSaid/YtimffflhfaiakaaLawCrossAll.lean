/- Any ranges: who has a time, where the most agree, where so many do. -/
import Derived.Test.YtimffflhfaiakaaCrF
import Derived.Test.YtimffflhfaiakaaCrU
import Derived.Test.YtimffflhfaiakaaCrV
import Derived.Test.YtimffflhfaiakaaFrame
namespace Go.Proofs.Ytimffflhfaiakaa.lawCrossAll
open Go.ChangeShapes Go.WideShapes Go.ChangeAt Go.RowKit
set_option linter.unusedVariables false

set_option maxRecDepth 100000 in
set_option maxHeartbeats 8000000 in
theorem walk (v : Value) (l : List Rg) (t n : Int) (w : World) (hr : rdR w v l) (hok : okR l) (ht : I64 t) (hn : I64 n) :
    Calls Try.prog 3 #[v, .int .i64 t, .int .i64 n] w fun e w' => e = .returned (.bool true) ∧ Below w.heap.size w w' := by
  replace hr := Lib.hid hr
  have hB := Lib.hid (Below.refl w.heap.size w)
  go_enter Try.func3, Try.ntmps3
  go_wp2_with fail
  refine (b10_any _).mono ?_
  rintro r w1 ⟨rfl, hb1⟩
  replace hB := Lib.hid (hB.out.trans (hb1.mono hB.out.size))
  replace hr := Lib.hid (hr.out.grow hb1)
  clear hb1
  go_wp2_with fail
  refine (of10_any v l _ hr.out).mono ?_
  rintro r w2 ⟨v2, u, rfl, hr2, hu, hb2⟩
  clear hr
  replace hB := Lib.hid (hB.out.trans (hb2.mono hB.out.size))
  clear hb2
  have hok2 := okR_take hok 12
  have hl12 : (l.take 12).length ≤ 12 := by rw [List.length_take]; omega
  generalize l.take 12 = L at hr2 hok2 hl12 hu
  clear hok
  have hur := Lib.hid hu.rd
  replace hr2 := Lib.hid hr2
  clear hu
  obtain ⟨⟨⟨bl, bh⟩, bn⟩, hbst⟩ : ∃ x, bestR L = x := ⟨_, rfl⟩
  obtain ⟨⟨⟨ml, mh⟩, mo⟩, hmst⟩ : ∃ x, mostR L n = x := ⟨_, rfl⟩
  obtain ⟨c, hc⟩ : ∃ c, cntR L t = c := ⟨_, rfl⟩
  replace hbst := Lib.hid hbst
  replace hmst := Lib.hid hmst
  replace hc := Lib.hid hc
  go_wp2_with fail
  refine (xBest_any _ L _ hr2.out hok2 (by omega)).mono ?_
  rintro r w3 ⟨rfl, hb3⟩
  rw [hbst.out]
  replace hB := Lib.hid (hB.out.trans (hb3.mono hB.out.size))
  replace hr2 := Lib.hid (hr2.out.grow hb3)
  replace hur := Lib.hid (hur.out.grow hb3)
  clear hb3
  obtain ⟨wa1, hwa1⟩ : ∃ W, W = w3.alloc (.cells #[.int .i64 bl, .int .i64 bh] 28) := ⟨_, rfl⟩
  have hba : Below w3.heap.size w3 wa1 := hwa1 ▸ (Below.refl _ _).alloc (Nat.le_refl _) _
  have hx1 : wa1.heap[w3.heap.size]? = some (.cells #[.int .i64 bl, .int .i64 bh] 28 (0, 0)) := hwa1 ▸ at_new _ _
  obtain ⟨n1, hn1⟩ : ∃ n, n = w3.heap.size := ⟨_, rfl⟩
  rw [← hn1] at hx1
  replace hx1 := Lib.hid hx1
  replace hB := Lib.hid (hB.out.trans (hba.mono hB.out.size))
  replace hr2 := Lib.hid (hr2.out.grow hba)
  replace hur := Lib.hid (hur.out.grow hba)
  clear hba
  go_upto_region 6 with (fail)
  rw [← hwa1, ← hn1]
  clear hwa1
  replace hn1 := Lib.hid hn1
  go_wp2_with fail
  refine (rBest_any _ L _ hur.out hok2).mono ?_
  rintro r w4 ⟨rfl, hb4⟩
  rw [hbst.out]
  replace hB := Lib.hid (hB.out.trans (hb4.mono hB.out.size))
  replace hr2 := Lib.hid (hr2.out.grow hb4)
  replace hur := Lib.hid (hur.out.grow hb4)
  replace hx1 := Lib.hid (at_below hx1.out hb4)
  clear hb4
  obtain ⟨wa2, hwa2⟩ : ∃ W, W = w4.alloc (.cells #[.int .i64 bl, .int .i64 bh] 31) := ⟨_, rfl⟩
  have hba : Below w4.heap.size w4 wa2 := hwa2 ▸ (Below.refl _ _).alloc (Nat.le_refl _) _
  have hx2 : wa2.heap[w4.heap.size]? = some (.cells #[.int .i64 bl, .int .i64 bh] 31 (0, 0)) := hwa2 ▸ at_new _ _
  obtain ⟨n2, hn2⟩ : ∃ n, n = w4.heap.size := ⟨_, rfl⟩
  rw [← hn2] at hx2
  replace hx2 := Lib.hid hx2
  replace hB := Lib.hid (hB.out.trans (hba.mono hB.out.size))
  replace hr2 := Lib.hid (hr2.out.grow hba)
  replace hur := Lib.hid (hur.out.grow hba)
  replace hx1 := Lib.hid (at_below hx1.out hba)
  clear hba
  go_upto_region 7 with (fail)
  rw [← hwa2, ← hn2]
  clear hwa2
  replace hn2 := Lib.hid hn2
  go_wp2_with fail
  refine (xMost_any _ L n _ hr2.out hok2 (by omega) hn).mono ?_
  rintro r w5 ⟨rfl, hb5⟩
  rw [hmst.out]
  replace hB := Lib.hid (hB.out.trans (hb5.mono hB.out.size))
  replace hr2 := Lib.hid (hr2.out.grow hb5)
  replace hur := Lib.hid (hur.out.grow hb5)
  replace hx1 := Lib.hid (at_below hx1.out hb5)
  replace hx2 := Lib.hid (at_below hx2.out hb5)
  clear hb5
  obtain ⟨wa3, hwa3⟩ : ∃ W, W = w5.alloc (.cells #[.int .i64 ml, .int .i64 mh] 28) := ⟨_, rfl⟩
  have hba : Below w5.heap.size w5 wa3 := hwa3 ▸ (Below.refl _ _).alloc (Nat.le_refl _) _
  have hx3 : wa3.heap[w5.heap.size]? = some (.cells #[.int .i64 ml, .int .i64 mh] 28 (0, 0)) := hwa3 ▸ at_new _ _
  obtain ⟨n3, hn3⟩ : ∃ n, n = w5.heap.size := ⟨_, rfl⟩
  rw [← hn3] at hx3
  replace hx3 := Lib.hid hx3
  replace hB := Lib.hid (hB.out.trans (hba.mono hB.out.size))
  replace hr2 := Lib.hid (hr2.out.grow hba)
  replace hur := Lib.hid (hur.out.grow hba)
  replace hx1 := Lib.hid (at_below hx1.out hba)
  replace hx2 := Lib.hid (at_below hx2.out hba)
  clear hba
  go_upto_region 8 with (fail)
  rw [← hwa3, ← hn3]
  clear hwa3
  replace hn3 := Lib.hid hn3
  go_wp2_with fail
  refine (rHull_any _ L n _ hur.out hok2).mono ?_
  rintro r w6 ⟨rfl, hb6⟩
  rw [hmst.out]
  replace hB := Lib.hid (hB.out.trans (hb6.mono hB.out.size))
  replace hr2 := Lib.hid (hr2.out.grow hb6)
  replace hur := Lib.hid (hur.out.grow hb6)
  replace hx1 := Lib.hid (at_below hx1.out hb6)
  replace hx2 := Lib.hid (at_below hx2.out hb6)
  replace hx3 := Lib.hid (at_below hx3.out hb6)
  clear hb6
  obtain ⟨wa4, hwa4⟩ : ∃ W, W = w6.alloc (.cells #[.int .i64 ml, .int .i64 mh] 31) := ⟨_, rfl⟩
  have hba : Below w6.heap.size w6 wa4 := hwa4 ▸ (Below.refl _ _).alloc (Nat.le_refl _) _
  have hx4 : wa4.heap[w6.heap.size]? = some (.cells #[.int .i64 ml, .int .i64 mh] 31 (0, 0)) := hwa4 ▸ at_new _ _
  obtain ⟨n4, hn4⟩ : ∃ n, n = w6.heap.size := ⟨_, rfl⟩
  rw [← hn4] at hx4
  replace hx4 := Lib.hid hx4
  replace hB := Lib.hid (hB.out.trans (hba.mono hB.out.size))
  replace hr2 := Lib.hid (hr2.out.grow hba)
  replace hur := Lib.hid (hur.out.grow hba)
  replace hx1 := Lib.hid (at_below hx1.out hba)
  replace hx2 := Lib.hid (at_below hx2.out hba)
  replace hx3 := Lib.hid (at_below hx3.out hba)
  clear hba
  go_upto_region 9 with (fail)
  rw [← hwa4, ← hn4]
  clear hwa4
  replace hn4 := Lib.hid hn4
  go_wp2_with fail
  refine (xCount_any _ L t _ hr2.out).mono ?_
  rintro r w7 ⟨rfl, hb7⟩
  rw [hc.out]
  replace hB := Lib.hid (hB.out.trans (hb7.mono hB.out.size))
  replace hr2 := Lib.hid (hr2.out.grow hb7)
  replace hur := Lib.hid (hur.out.grow hb7)
  replace hx1 := Lib.hid (at_below hx1.out hb7)
  replace hx2 := Lib.hid (at_below hx2.out hb7)
  replace hx3 := Lib.hid (at_below hx3.out hb7)
  replace hx4 := Lib.hid (at_below hx4.out hb7)
  clear hb7
  go_wp2_with fail
  refine (rCount_any _ L t _ hur.out).mono ?_
  rintro r w8 ⟨rfl, rfl⟩
  rw [hc.out]
  have p0 := cell_at hx1.out 0
  have p1 := cell_at hx1.out 1
  simp only [List.getElem?_toArray, List.getElem?_cons_zero, List.getElem?_cons_succ] at p0 p1
  have q0 := cell_at hx2.out 0
  have q1 := cell_at hx2.out 1
  simp only [List.getElem?_toArray, List.getElem?_cons_zero, List.getElem?_cons_succ] at q0 q1
  have r0 := cell_at hx3.out 0
  have r1 := cell_at hx3.out 1
  simp only [List.getElem?_toArray, List.getElem?_cons_zero, List.getElem?_cons_succ] at r0 r1
  have s0 := cell_at hx4.out 0
  have s1 := cell_at hx4.out 1
  simp only [List.getElem?_toArray, List.getElem?_cons_zero, List.getElem?_cons_succ] at s0 s1
  go_wp2
  go_ret
  exact ⟨rfl, hB.out⟩

/-! the row's step, written out by law.py -/
set_option maxRecDepth 100000 in
theorem lifted (os : Os) (started : os.Started) (H : Type) (enc : TypeId × Value → H) :
    ReturnsInHanded {} Try.checked os 3 .any (Rows.crossAllSpec.pre6 enc Try.prog Try.f3 Rows.crossAllRow.domain false) (Rows.crossAllSpec.post enc Try.prog Try.f3 false true false false) := by
  refine returnsInHanded_of_change (C := Try.checked) own started (by kernel_rfl) Try.func3
    (ChangeSpec.witness6 (enc := enc) (C := Try.checked) false ⟨#[], #[.slice none 0 0, .int .i64 0, .int .i64 0], []⟩ 8 (by kernel_rfl) (by kernel_rfl) (by kernel_rfl) (by kernel_rfl)) ?_
  intro W base args ds gs before hval0 hW hcnd _
  have hval : ∀ (j : Nat) t v, Try.f3.params[j]? = some t → args[j]? = some v → Value.okWide Try.prog W .any base t v := hval0
  have hW' := hW
  obtain ⟨p, q, hA0, hV, rfl, hfz, hnd⟩ := hW
  have hA : DataW.TrodAll enc Try.prog W 0 (fun _ => true) true Try.f3.params.toList args.toList ds p := hA0
  rw [Try.params3] at hA hval
  obtain ⟨v0, vs0, d0, ds0, p0, q0, hargs, rfl, rfl, h0, r0⟩ := trodAll_cons hA
  obtain ⟨v1, vs1, d1, ds1, p1, q1, rfl, rfl, rfl, h1, r1⟩ := trodAll_cons r0
  obtain ⟨v2, vs2, d2, ds2, p2, q2, rfl, rfl, rfl, h2, r2⟩ := trodAll_cons r1
  obtain ⟨rfl, rfl, rfl⟩ := trodAll_nil r2
  obtain rfl : args = #[v0, v1, v2] := by cases args; simp_all
  obtain ⟨rfl, rfl⟩ := trodVars_none hV
  have k0 := h0
  have lt0 : ∀ x ∈ p0, x.block < W.heap.size := by obtain ⟨m, hm⟩ := k0; exact DataW.trod_lt m _ _ _ hm
  have k1 := h1
  have lt1 : ∀ x ∈ p1, x.block < W.heap.size := by obtain ⟨m, hm⟩ := k1; exact DataW.trod_lt m _ _ _ hm
  have k2 := h2
  have lt2 : ∀ x ∈ p2, x.block < W.heap.size := by obtain ⟨m, hm⟩ := k2; exact DataW.trod_lt m _ _ _ hm
  obtain ⟨l0, w0, b0⟩ := slrange_open (hval 0 22 v0 rfl rfl) h0
  obtain ⟨a1, rfl, rfl, rfl, w1⟩ := open_int Try.underlying2 (hval 1 2 v1 rfl rfl) h1
  have w1 := bounds_i64 w1
  obtain ⟨a2, rfl, rfl, rfl, w2⟩ := open_int Try.underlying3 (hval 2 3 v2 rfl rfl) h2
  have w2 := bounds_i64 w2
  clear hA0 hval0
  simp only [List.append_nil] at hW'
  refine (walk v0 l0 a1 a2 W w0 b0 w1 w2).mono fun e W' ⟨he, bel⟩ => ?_
  subst he
  exact ⟨_, rfl, _, _, _, [], _, [], hW', trodAll_mk1 (shut_bool Try.underlying4 _), (trodAll_cons_mk (Below.trod laidOut (by kernel_rfl) (of_decide_eq_true (by kernel_rfl)) k0 bel lt0) (trodAll_cons_mk (Below.trod laidOut (by kernel_rfl) (of_decide_eq_true (by kernel_rfl)) k1 bel lt1) (trodAll_cons_mk (Below.trod laidOut (by kernel_rfl) (of_decide_eq_true (by kernel_rfl)) k2 bel lt2) trodAll_mk0))), rfl, bel.frame _, fun h => by cases h⟩

theorem over : Rows.crossAllRow.holds Try.pinned (OpenSpec.ofChange Rows.crossAllSpec) :=
  OpenClaim.holds_of_wide 3 Try.f3 rfl rfl rfl rfl rfl rfl rfl ⟨rfl, rfl, rfl, rfl, rfl⟩ rfl rfl rfl rfl rfl (by kernel_rfl) Try.func3 (by kernel_rfl)
    (of_decide_eq_true (by kernel_rfl)) (by unfold Func.isWrapper; first | (rw [if_pos (by decide +kernel)]; kernel_rfl) | (rw [if_neg (by decide +kernel)]; exact ⟨rfl, rfl⟩))
    (fun os started H enc _ => lifted os started H enc)

theorem proved : Rows.CrossAllSaid := over
end Go.Proofs.Ytimffflhfaiakaa.lawCrossAll
